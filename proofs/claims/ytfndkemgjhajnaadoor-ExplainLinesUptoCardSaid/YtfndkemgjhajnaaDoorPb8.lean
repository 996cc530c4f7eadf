/-
  Chapter 30: the document's joins, cases, operators, by the evaluator. Conditions: none.
-/
import Derived.Test.YtfndkemgjhajnaaDoorPb7
namespace Go.Tab
open Go Go.Pe

theorem join_snoc (sep x : List UInt8) : ∀ l : List (List UInt8), l ≠ [] → Lib.join (l ++ [x]) sep = Lib.join l sep ++ sep ++ x
  | [], h => absurd rfl h
  | y :: r, _ => by
    rw [List.cons_append, Lib.join_cons, Lib.join_cons]
    simp only [Lib.joinTail, List.map_append, List.flatten_append, List.map_cons, List.map_nil, List.flatten_cons, List.flatten_nil, List.append_nil, List.append_assoc]
/-- The pieces of a node's line. -/
def p1 (op : Int) : List (List UInt8) := [wordL op]
def p2 (op : Int) (tb : List UInt8) : List (List UInt8) := if tb = [] then p1 op else p1 op ++ [tb]
def p3 (op : Int) (tb ix : List UInt8) : List (List UInt8) := if op = 2 then p2 op tb ++ [[98, 121], ix] else p2 op tb
def p4 (op : Int) (tb ix : List UInt8) (kids : List Pn) (lk rk : List Tm) : List (List UInt8) := if lk ≠ [] ∧ rk ≠ [] then p3 op tb ix ++ [[111, 110], keysL kids lk rk] else p3 op tb ix
def p5 (p : Pn) : List (List UInt8) := match p with
  | .mk op tb ix cols kids terms lk rk r est cost => if terms = [] then p4 op tb ix kids lk rk else p4 op tb ix kids lk rk ++ [termsL (.mk op tb ix cols kids terms lk rk r est cost) terms]
def p6 (p : Pn) (rows : List UInt8) : List (List UInt8) := match p with
  | .mk op tb ix cols kids terms lk rk r est cost => p5 (.mk op tb ix cols kids terms lk rk r est cost) ++ [[101, 115, 116], Lib.itoa est, [99, 111, 115, 116], Lib.itoa cost, [114, 111, 119, 115], rows]
theorem join_snoc2 (sep x y : List UInt8) (l : List (List UInt8)) (h : l ≠ []) : Lib.join (l ++ [x, y]) sep = Lib.join l sep ++ sep ++ x ++ sep ++ y := by
  rw [show l ++ [x, y] = (l ++ [x]) ++ [y] by simp, join_snoc _ _ _ (by simp), join_snoc _ _ _ h]
theorem p2_ne (op : Int) (tb : List UInt8) : p2 op tb ≠ [] := by unfold p2 p1; split <;> simp
theorem p3_ne (op : Int) (tb ix : List UInt8) : p3 op tb ix ≠ [] := by unfold p3; split; simp; exact p2_ne _ _
theorem p4_ne (op : Int) (tb ix : List UInt8) (kids : List Pn) (lk rk : List Tm) : p4 op tb ix kids lk rk ≠ [] := by unfold p4; split; simp; exact p3_ne _ _ _
theorem p5_ne (p : Pn) : p5 p ≠ [] := by cases p; unfold p5; simp only; split; exact p4_ne _ _ _ _ _ _; simp
theorem join_p6 (p : Pn) (rows : List UInt8) : Lib.join (p6 p rows) [32] = lineL p rows := by
  cases p with
  | mk op tb ix cols kids terms lk rk r est cost =>
    have h1 : Lib.join (p1 op) [32] = wordL op := Lib.join_one _ _
    have h2 : Lib.join (p2 op tb) [32] = if tb = [] then wordL op else wordL op ++ [32] ++ tb := by
      unfold p2
      split
      · exact h1
      · rw [join_snoc _ _ _ (by simp [p1]), h1]
    have h3 : Lib.join (p3 op tb ix) [32] = if op = 2 then (if tb = [] then wordL op else wordL op ++ [32] ++ tb) ++ [32, 98, 121, 32] ++ ix else (if tb = [] then wordL op else wordL op ++ [32] ++ tb) := by
      unfold p3
      split
      · rw [join_snoc2 _ _ _ _ (p2_ne _ _), h2]; simp
      · exact h2
    have h4 : Lib.join (p4 op tb ix kids lk rk) [32] = if lk ≠ [] ∧ rk ≠ [] then Lib.join (p3 op tb ix) [32] ++ [32, 111, 110, 32] ++ keysL kids lk rk else Lib.join (p3 op tb ix) [32] := by
      unfold p4
      split
      · rw [join_snoc2 _ _ _ _ (p3_ne _ _ _)]; simp
      · rfl
    have h5 : Lib.join (p5 (.mk op tb ix cols kids terms lk rk r est cost)) [32] = if terms = [] then Lib.join (p4 op tb ix kids lk rk) [32] else Lib.join (p4 op tb ix kids lk rk) [32] ++ [32] ++ termsL (.mk op tb ix cols kids terms lk rk r est cost) terms := by
      unfold p5
      simp only
      split
      · rfl
      · rw [join_snoc _ _ _ (p4_ne _ _ _ _ _ _)]
    unfold p6 lineL
    simp only
    rw [show ∀ l : List (List UInt8), l ++ [[101, 115, 116], Lib.itoa est, [99, 111, 115, 116], Lib.itoa cost, [114, 111, 119, 115], rows] = ((l ++ [[101, 115, 116], Lib.itoa est]) ++ [[99, 111, 115, 116], Lib.itoa cost]) ++ [[114, 111, 119, 115], rows] from fun l => by simp]
    rw [join_snoc2 _ _ _ _ (by simp), join_snoc2 _ _ _ _ (by simp), join_snoc2 _ _ _ _ (p5_ne _), h5, h4, h3]
    simp only [List.append_assoc, List.cons_append, List.nil_append]

theorem blanks_succ (n : Nat) : blanks (n + 1) = [32, 32] ++ blanks n := by simp [blanks, List.replicate_succ]
end Go.Tab
namespace Go.Proofs.YtfndkemgjhajnaaDoor
open Go Go.Pe Go.Tab

theorem cat_u {P : Program} {T : TT} {t : Nat} {u : Option TypeDesc} (a b : List UInt8) : binX P T t u .add (.of (.lit (.string (strL a)))) (.of (.lit (.string (strL b)))) = if a.length + b.length ≤ SLIM then out (xstr (strL (a ++ b))) else none := by
  rw [Z1u, size_strL, size_strL, strL_app]
theorem zeroX_at (u : TypeDesc) (n b : Nat) (a : Bool) (z : List Value) (f : List (Nat × Nat)) : zeroX ⟨u, n, b, a, z, f⟩ = z.map ofVal := rfl
theorem lit_strL (l : List UInt8) : (ByteArray.mk l.toArray) = strL l := rfl
theorem strL_eq (a b : List UInt8) : (strL a = strL b) = (a = b) := propext ⟨strL_inj, fun h => h ▸ rfl⟩

def fl {α : Type} (f : α → List C) (l : List α) : List C := (l.map f).flatten
section
variable {α : Type} {f : α → List C} {z : Nat} (hz : ∀ x, (f x).length = z)
include hz
theorem fl_len (l : List α) : (fl f l).length = l.length * z := by
  induction l with
  | nil => simp [fl]
  | cons x l ih =>
    simp only [fl, List.map_cons, List.flatten_cons, List.length_append, List.length_cons] at ih ⊢
    rw [ih, hz, Nat.succ_mul, Nat.add_comm]
theorem fl_drop (l : List α) (k : Nat) : (fl f l).drop (k * z) = fl f (l.drop k) := by
  induction k generalizing l with
  | zero => simp
  | succ k ih =>
    cases l with
    | nil => simp [fl]
    | cons x l =>
      rw [List.drop_succ_cons, ← ih l, Nat.succ_mul, Nat.add_comm, ← List.drop_drop]
      simp only [fl, List.map_cons, List.flatten_cons]
      have h0 : (f x).drop z = [] := List.drop_of_length_le (by rw [hz]; exact Nat.le_refl _)
      rw [List.drop_append_of_le_length (by rw [hz]; exact Nat.le_refl _), h0, List.nil_append]
theorem ia_fl {T : TT} {t e : Nat} {d : TD} (hE : Pe.elemOf T t = some (e, d)) (hd : d.size = z) (hz0 : 0 < z) (l : List α) (x : X) (hx : asSl x = some (fl f l, l.length)) (k : Nat) (h : k < l.length) :
    indexAddrX T t x (xint k) = out (.of (.ref (fl f (l.drop k)))) := by
  unfold Pe.elemOf at hE
  split at hE
  · rename_i e' sz by_ ag ze fi hT
    simp only [Option.map_eq_some_iff, Prod.mk.injEq] at hE
    obtain ⟨d', hd', rfl, rfl⟩ := hE
    simp only [indexAddrX, litInt, hT, hd', hx]
    rw [if_pos ⟨by omega, by omega, by rw [fl_len hz, hd], by omega⟩]
    simp only [Int.toNat_natCast]
    rw [hd, fl_drop hz]
  · cases hE
end
theorem fl_at {α : Type} (f : α → List C) (l : List α) (k : Nat) (h : k < l.length) : fl f (l.drop k) = f l[k] ++ fl f (l.drop (k + 1)) := by
  show ((l.drop k).map f).flatten = _
  rw [List.drop_eq_getElem_cons h, List.map_cons, List.flatten_cons]
  rfl
def c1 (c : C) : List C := [c]
def txC (l : List (List UInt8)) : List C := l.map fun s => cstr (strL s)
theorem txC_strs (l : List (List UInt8)) : txC l = strsC (l.map strL) := by simp [txC, strsC]
theorem data_strL (l : List (List UInt8)) : (l.map strL).map (·.data.toList) = l := by
  rw [List.map_map]
  conv => rhs; rw [← List.map_id l]
  exact List.map_congr_left fun s _ => by simp [strL]
theorem join_k (l : List (List UInt8)) (sep : List UInt8) (K : An → Prop) (h1 : l.length ≤ 140737488355328) (h2 : (Lib.join l sep).length ≤ 140737488355328) :
    CallK Tryd.prog pr 26 [.of (.sl (txC l) l.length), .of (cstr (strL sep))] [] K ↔ K ⟨false, [xstr (strL (Lib.join l sep))], []⟩ := by
  refine Gives.k (Gives.of_prim (show joinP [.of (.sl (txC l) l.length), .of (cstr (strL sep))] [] = _ from ?_)) K
  have hs : (strL sep).data.toList = sep := by simp [strL]
  simp only [joinP, txC_strs, unstrs_at, Option.bind_some, data_strL, hs, List.length_map]
  rw [if_pos ⟨trivial, h1, h2⟩]
  rfl
theorem rep_k (s : List UInt8) (n : Nat) (K : An → Prop) (h1 : n ≤ 9223372036854775807) (h2 : s.length * n ≤ 140737488355328) :
    CallK Tryd.prog pr 41 [.of (cstr (strL s)), .of (ci n)] [] K ↔ K ⟨false, [xstr (strL (Lib.repeatL s n))], []⟩ := by
  refine Gives.k (Gives.of_prim (show repP [.of (cstr (strL s)), .of (ci n)] [] = _ from ?_)) K
  have hs : (strL s).data.toList = s := by simp [strL]
  simp only [repP, hs, Int.toNat_natCast, size_strL]
  rw [if_pos ⟨by omega, by omega, h2⟩]
  rfl

def mapIS (l : List (Int × List UInt8)) : List (Value × C) := l.map fun p => (.int .i64 p.1, cstr (strL p.2))
theorem sameI (a b : Int) : Instr.sameNow (.int .i64) (.int .i64 a) (.int .i64 b) = some (decide (a = b)) := by
  simp only [Instr.sameNow, Option.some.injEq]
  by_cases h : a = b <;> simp [h]
theorem find_IS (n : Int) : ∀ (l : List (Int × List UInt8)) (i : Nat), (lookT l n = none ∧ findX (.int .i64) (.int .i64 n) (mapIS l) i = some none) ∨
    ∃ s j k, lookT l n = some s ∧ findX (.int .i64) (.int .i64 n) (mapIS l) i = some (some (i + j)) ∧ (mapIS l)[j]? = some (k, cstr (strL s))
  | [], i => .inl ⟨rfl, rfl⟩
  | p :: l, i => by
    simp only [mapIS, List.map_cons, findX, sameI, lookT]
    by_cases h : p.1 = n
    · have h' : n = p.1 := h.symm
      right
      exact ⟨p.2, 0, _, by rw [if_pos h], by simp [h'], rfl⟩
    · have h' : ¬ n = p.1 := fun e => h e.symm
      rw [if_neg h, decide_eq_false h']
      rcases find_IS n l (i + 1) with ⟨h1, h2⟩ | ⟨s, j, k, h1, h2, h3⟩
      · exact .inl ⟨h1, h2⟩
      · exact .inr ⟨s, j + 1, k, h1, by rw [show i + (j + 1) = i + 1 + j by omega]; exact h2, h3⟩
def lookX (o : Option (List UInt8)) : List X := match o with
  | some s => [xstr (strL s), xbool true]
  | none => [xstr (strL []), xbool false]
set_option maxRecDepth 100000 in
theorem look_IS {objs : List Ob} {q : Nat} {l : List (Int × List UInt8)} (ho : objs[q]? = some (.map (mapIS l))) (n : Int) : lookupX (TT.of Tryd.prog) objs 63 (.mp q) (.of (.lit (.int .i64 n))) true = out (.tup (lookX (lookT l n))) := by
  have hz : zero1 (TT.of Tryd.prog) 9 = some (xstr (strL [])) := by simp only [zero1, T9]; rfl
  simp only [lookupX, M63, litOf, mapOf, ho]
  rcases find_IS n l 0 with ⟨h1, h2⟩ | ⟨s, j, k, h1, h2, h3⟩
  · simp only [h1, h2, hz, outO, Option.map_some, if_true, lookX]
    rfl
  · simp only [h1, h2, Nat.zero_add, h3, Option.map_some, outO, if_true, lookX]
    rfl
theorem updO_at (s : S) (d : Option Nat) (x : X) (r : Nat) (es : List (Value × C)) : updO s d x r (some es) = some ((s.withO (s.objs.set r (Ob.map es))).put d x) := rfl
set_option maxRecDepth 100000 in
theorem signs_call : Gives Tryd.prog pr 23 [] [] ⟨false, [.mp 0], [.map (mapIS signT)]⟩ := by
  refine by_body rfl ok23 body23 ar23 rfl ?_
  simp -implicitDefEqProofs only [Tryd.f23, ↓zD, zU, Nat.zero_mul, Nat.reduceMul, List.length_map, Tk.nm.injEq, Tk.cell.injEq, false_and, and_false, Nat.le_add_right, Nat.le_refl, ↓reduceIte, Bool.or_false, Bool.false_or, Bool.and_true, Bool.true_and, Bool.false_and, Bool.true_or, Bool.or_true, Option.isNone_none, Option.isNone_some, List.any_cons, List.any_nil, Bool.and_false, Nat.reduceBEq, Nat.reduceLeDiff, Int.reduceLT, Int.reduceEq, Int.reduceLE, Int.reduceAdd, Int.reduceToNat, Int.reduceNeg, Int.cast_ofNat_Int, Nat.reduceLT, List.drop_succ_cons, List.take_succ_cons, List.singleton_append, Nat.zero_add, List.set_cons_zero, List.set_cons_succ, List.drop_nil, List.take_nil, Option.map_some, Option.map_none, Option.getD_some, Option.getD_none, Option.bind_some, List.cons_append, List.nil_append, List.append_nil, List.map_cons, List.map_nil, List.range_zero, List.take_zero, List.flatten_nil, List.filter_nil, List.length_nil, List.length_cons, List.drop_zero, List.not_mem_nil, List.mem_cons, Bool.true_eq_false, Bool.false_eq_true, Nat.reduceEqDiff, Nat.reduceAdd, List.getElem?_toArray, List.toList_toArray, List.getElem?_cons_zero, List.getElem?_cons_succ, decide_eq_true_eq, beq_self_eq_true, beq_true, beq_false, decide_true, decide_false, Bool.not_true, Bool.not_false, true_and, and_true, or_false, false_or, Bool.and_eq_true, reduceCtorEq, not_false_eq_true, Z1u, rv23, SO_insert (ht := M63), mapUpdO, putO, updO_at, obMap, putX, findX, sameI, Int.reduceEq, decide_false, List.cons_append, List.nil_append]
  rfl
set_option maxRecDepth 100000 in
theorem words_call : Gives Tryd.prog pr 38 [] [] ⟨false, [.mp 0], [.map (mapIS wordT)]⟩ := by
  refine by_body rfl ok38 body38 ar38 rfl ?_
  simp -implicitDefEqProofs only [Tryd.f38, ↓zD, zU, Nat.zero_mul, Nat.reduceMul, List.length_map, Tk.nm.injEq, Tk.cell.injEq, false_and, and_false, Nat.le_add_right, Nat.le_refl, ↓reduceIte, Bool.or_false, Bool.false_or, Bool.and_true, Bool.true_and, Bool.false_and, Bool.true_or, Bool.or_true, Option.isNone_none, Option.isNone_some, List.any_cons, List.any_nil, Bool.and_false, Nat.reduceBEq, Nat.reduceLeDiff, Int.reduceLT, Int.reduceEq, Int.reduceLE, Int.reduceAdd, Int.reduceToNat, Int.reduceNeg, Int.cast_ofNat_Int, Nat.reduceLT, List.drop_succ_cons, List.take_succ_cons, List.singleton_append, Nat.zero_add, List.set_cons_zero, List.set_cons_succ, List.drop_nil, List.take_nil, Option.map_some, Option.map_none, Option.getD_some, Option.getD_none, Option.bind_some, List.cons_append, List.nil_append, List.append_nil, List.map_cons, List.map_nil, List.range_zero, List.take_zero, List.flatten_nil, List.filter_nil, List.length_nil, List.length_cons, List.drop_zero, List.not_mem_nil, List.mem_cons, Bool.true_eq_false, Bool.false_eq_true, Nat.reduceEqDiff, Nat.reduceAdd, List.getElem?_toArray, List.toList_toArray, List.getElem?_cons_zero, List.getElem?_cons_succ, decide_eq_true_eq, beq_self_eq_true, beq_true, beq_false, decide_true, decide_false, Bool.not_true, Bool.not_false, true_and, and_true, or_false, false_or, Bool.and_eq_true, reduceCtorEq, not_false_eq_true, Z1u, rv38, SO_insert (ht := M63), mapUpdO, putO, updO_at, obMap, putX, findX, sameI, Int.reduceEq, decide_false, List.cons_append, List.nil_append]
  rfl
end Go.Proofs.YtfndkemgjhajnaaDoor
namespace Go.Proofs.YtfndkemgjhajnaaDoor
open Go Go.Pe Go.Tab

theorem small_of {n : Int} (h : I64 n) : small64 n = true := decide_eq_true h
abbrev txX (x : X) (l : List (List UInt8)) : Prop := asSl x = some (txC l, l.length)
theorem fl_tx : ∀ l : List (List UInt8), fl (fun s => [cstr (strL s)]) l = txC l
  | [] => rfl
  | s :: l => by
    have h := fl_tx l
    simp only [fl, txC, List.map_cons, List.flatten_cons, List.cons_append, List.nil_append] at h ⊢
    rw [h]
set_option maxRecDepth 100000 in
theorem ia_tx (l : List (List UInt8)) (x : X) (hx : txX x l) (k : Nat) (h : k < l.length) : indexAddrX (TT.of Tryd.prog) 37 x (xint k) = out (.of (.ref ((txC l).drop k))) := by
  have h1 := fl_tx l
  have h2 := ia_fl (f := fun s => [cstr (strL s)]) (z := 1) (fun _ => rfl) E37 rfl (by decide) l x (by rw [h1]; exact hx) k h
  rw [h2]
  congr 3
  have h3 := fl_drop (f := fun s => [cstr (strL s)]) (z := 1) (fun _ => rfl) l k
  rw [h1, Nat.mul_one] at h3
  exact h3.symm
theorem ia_cols (cols : List Cl) (k : Nat) (h : k < cols.length) : indexAddrX (TT.of Tryd.prog) 22 (.of (colsC cols)) (xint k) = out (.of (.ref (fl clC (cols.drop k)))) :=
  ia_fl (f := clC) (z := 3) (fun _ => rfl) E22 rfl (by decide) cols _ rfl k h
theorem len_cols (u : Nat) (cols : List Cl) : lenX (some (.slice u)) (.of (colsC cols)) = out (xint cols.length) := rfl
theorem ref_cols (cols : List Cl) (k : Nat) (h : k < cols.length) : fl clC (cols.drop k) = cstr (strL cols[k].tb) :: cstr (strL cols[k].nm) :: ci cols[k].ty :: fl clC (cols.drop (k + 1)) := fl_at clC cols k h
theorem ix_cols (cols : List Cl) (a : Int) (h0 : 0 ≤ a) (h1 : a < cols.length) : ∃ (k : Nat) (h : k < cols.length), a = k ∧ cols[a.toNat]? = some cols[k] := by
  refine ⟨a.toNat, by omega, by omega, ?_⟩
  rw [List.getElem?_eq_getElem]

section
variable (cols : List Cl) (op k n d a ty : Int) (s : ByteArray) (nm : List UInt8) (kc sub : C) (hc : ClsOk cols) (hd : I64 d) (ha : I64 a)
include hc hd ha
set_option maxRecDepth 100000 in
theorem excolumn_call : G1 25 [.of (.agg [ci op, ci k, ci n, cstr s, ci d, ci a, cstr (strL nm), kc, sub, ci ty]), .of (colsC cols)] (xstr (strL (colL cols d a))) := by
  have l1 := itoa_short d hd.1 hd.2
  have l2 := itoa_short a ha.1 ha.2
  refine by_body rfl ok25 body25 ar25 rfl ?_
  by_cases h1 : d = 0
  · have d1 : decide (d = 0) = true := decide_eq_true h1
    by_cases h2 : a < 0
    · have e : colL cols d a = [36] ++ Lib.itoa d ++ [46] ++ Lib.itoa a := by unfold colL; rw [if_pos (.inr (.inl h2))]
      have d2 : decide (a < 0) = true := decide_eq_true h2
      rw [e]
      simp -implicitDefEqProofs (maxSteps := 1000000) only [Tryd.f25, ↓zD, zU, Nat.zero_mul, Nat.reduceMul, List.length_map, Tk.nm.injEq, Tk.cell.injEq, false_and, and_false, Nat.le_add_right, Nat.le_refl, ↓reduceIte, Bool.or_false, Bool.false_or, Bool.and_true, Bool.true_and, Bool.false_and, Bool.true_or, Bool.or_true, Option.isNone_none, Option.isNone_some, List.any_cons, List.any_nil, Bool.and_false, Nat.reduceBEq, Nat.reduceLeDiff, Int.reduceLT, Int.reduceEq, Int.reduceLE, Int.reduceAdd, Int.reduceToNat, Int.reduceNeg, Int.cast_ofNat_Int, Nat.reduceLT, List.drop_succ_cons, List.take_succ_cons, List.singleton_append, Nat.zero_add, List.set_cons_zero, List.set_cons_succ, List.drop_nil, List.take_nil, Option.map_some, Option.map_none, Option.getD_some, Option.getD_none, Option.bind_some, List.cons_append, List.nil_append, List.append_nil, List.map_cons, List.map_nil, List.range_zero, List.take_zero, List.flatten_nil, List.filter_nil, List.length_nil, List.length_cons, List.drop_zero, List.not_mem_nil, List.mem_cons, Bool.true_eq_false, Bool.false_eq_true, Nat.reduceEqDiff, Nat.reduceAdd, List.getElem?_toArray, List.toList_toArray, List.getElem?_cons_zero, List.getElem?_cons_succ, decide_eq_true_eq, beq_self_eq_true, beq_true, beq_false, decide_true, decide_false, Bool.not_true, Bool.not_false, true_and, and_true, or_false, false_or, Bool.and_eq_true, reduceCtorEq, not_false_eq_true, cat_u, lit_strL, List.append_assoc, rv25, zeroX_at, T46, boxO, T3, T9, U3, U9, U22, U37, fa46_0, fa46_1, fa46_2, fa46_3, fa46_4, fa46_5, P3, P9, d1, d2, numText_k _ _ (small_of hd), numText_k _ _ (small_of ha), pr_obj, obj16, call16] <;> ((try simp only [List.length_append, List.length_cons, List.length_nil, SLIM]); omega)
    · have d2 : decide (a < 0) = false := decide_eq_false h2
      by_cases h3 : (cols.length : Int) ≤ a
      · have e : colL cols d a = [36] ++ Lib.itoa d ++ [46] ++ Lib.itoa a := by unfold colL; rw [if_pos (.inr (.inr h3))]
        have d3 : decide ((cols.length : Int) ≤ a) = true := decide_eq_true h3
        rw [e]
        simp -implicitDefEqProofs (maxSteps := 1000000) only [Tryd.f25, ↓zD, zU, Nat.zero_mul, Nat.reduceMul, List.length_map, Tk.nm.injEq, Tk.cell.injEq, false_and, and_false, Nat.le_add_right, Nat.le_refl, ↓reduceIte, Bool.or_false, Bool.false_or, Bool.and_true, Bool.true_and, Bool.false_and, Bool.true_or, Bool.or_true, Option.isNone_none, Option.isNone_some, List.any_cons, List.any_nil, Bool.and_false, Nat.reduceBEq, Nat.reduceLeDiff, Int.reduceLT, Int.reduceEq, Int.reduceLE, Int.reduceAdd, Int.reduceToNat, Int.reduceNeg, Int.cast_ofNat_Int, Nat.reduceLT, List.drop_succ_cons, List.take_succ_cons, List.singleton_append, Nat.zero_add, List.set_cons_zero, List.set_cons_succ, List.drop_nil, List.take_nil, Option.map_some, Option.map_none, Option.getD_some, Option.getD_none, Option.bind_some, List.cons_append, List.nil_append, List.append_nil, List.map_cons, List.map_nil, List.range_zero, List.take_zero, List.flatten_nil, List.filter_nil, List.length_nil, List.length_cons, List.drop_zero, List.not_mem_nil, List.mem_cons, Bool.true_eq_false, Bool.false_eq_true, Nat.reduceEqDiff, Nat.reduceAdd, List.getElem?_toArray, List.toList_toArray, List.getElem?_cons_zero, List.getElem?_cons_succ, decide_eq_true_eq, beq_self_eq_true, beq_true, beq_false, decide_true, decide_false, Bool.not_true, Bool.not_false, true_and, and_true, or_false, false_or, Bool.and_eq_true, reduceCtorEq, not_false_eq_true, cat_u, lit_strL, List.append_assoc, rv25, zeroX_at, T46, boxO, T3, T9, U3, U9, U22, U37, fa46_0, fa46_1, fa46_2, fa46_3, fa46_4, fa46_5, P3, P9, len_cols, d1, d2, d3, numText_k _ _ (small_of hd), numText_k _ _ (small_of ha), pr_obj, obj16, call16] <;> ((try simp only [List.length_append, List.length_cons, List.length_nil, SLIM]); omega)
      · have d3 : decide ((cols.length : Int) ≤ a) = false := decide_eq_false h3
        obtain ⟨i, hi, rfl, e1⟩ := ix_cols cols a (by omega) (by omega)
        have hw := hc _ (List.getElem_mem hi)
        unfold Cl.wt at hw
        by_cases h4 : cols[i].tb = []
        · have e : colL cols d i = cols[i].nm := by unfold colL; rw [if_neg (by omega), e1]; simp only [h4, if_true]
          rw [e]
          simp -implicitDefEqProofs (maxSteps := 1000000) only [Tryd.f25, ↓zD, zU, Nat.zero_mul, Nat.reduceMul, List.length_map, Tk.nm.injEq, Tk.cell.injEq, false_and, and_false, Nat.le_add_right, Nat.le_refl, ↓reduceIte, Bool.or_false, Bool.false_or, Bool.and_true, Bool.true_and, Bool.false_and, Bool.true_or, Bool.or_true, Option.isNone_none, Option.isNone_some, List.any_cons, List.any_nil, Bool.and_false, Nat.reduceBEq, Nat.reduceLeDiff, Int.reduceLT, Int.reduceEq, Int.reduceLE, Int.reduceAdd, Int.reduceToNat, Int.reduceNeg, Int.cast_ofNat_Int, Nat.reduceLT, List.drop_succ_cons, List.take_succ_cons, List.singleton_append, Nat.zero_add, List.set_cons_zero, List.set_cons_succ, List.drop_nil, List.take_nil, Option.map_some, Option.map_none, Option.getD_some, Option.getD_none, Option.bind_some, List.cons_append, List.nil_append, List.append_nil, List.map_cons, List.map_nil, List.range_zero, List.take_zero, List.flatten_nil, List.filter_nil, List.length_nil, List.length_cons, List.drop_zero, List.not_mem_nil, List.mem_cons, Bool.true_eq_false, Bool.false_eq_true, Nat.reduceEqDiff, Nat.reduceAdd, List.getElem?_toArray, List.toList_toArray, List.getElem?_cons_zero, List.getElem?_cons_succ, decide_eq_true_eq, beq_self_eq_true, beq_true, beq_false, decide_true, decide_false, Bool.not_true, Bool.not_false, true_and, and_true, or_false, false_or, Bool.and_eq_true, reduceCtorEq, not_false_eq_true, cat_u, lit_strL, List.append_assoc, rv25, zeroX_at, T46, boxO, T3, T9, U3, U9, U22, U37, fa46_0, fa46_1, fa46_2, fa46_3, fa46_4, fa46_5, P3, P9, len_cols, d1, d2, d3, ia_cols cols i hi, Q54, T54, fa54_0, fa54_1, fr54_0, fr54_1, ref_cols cols i hi, Q9, strL_eq, h4] <;> ((try simp only [List.length_append, List.length_cons, List.length_nil, SLIM]); omega)
        · have e : colL cols d i = cols[i].tb ++ [46] ++ cols[i].nm := by unfold colL; rw [if_neg (by omega), e1]; simp only [h4, if_false]
          rw [e]
          simp -implicitDefEqProofs (maxSteps := 1000000) only [Tryd.f25, ↓zD, zU, Nat.zero_mul, Nat.reduceMul, List.length_map, Tk.nm.injEq, Tk.cell.injEq, false_and, and_false, Nat.le_add_right, Nat.le_refl, ↓reduceIte, Bool.or_false, Bool.false_or, Bool.and_true, Bool.true_and, Bool.false_and, Bool.true_or, Bool.or_true, Option.isNone_none, Option.isNone_some, List.any_cons, List.any_nil, Bool.and_false, Nat.reduceBEq, Nat.reduceLeDiff, Int.reduceLT, Int.reduceEq, Int.reduceLE, Int.reduceAdd, Int.reduceToNat, Int.reduceNeg, Int.cast_ofNat_Int, Nat.reduceLT, List.drop_succ_cons, List.take_succ_cons, List.singleton_append, Nat.zero_add, List.set_cons_zero, List.set_cons_succ, List.drop_nil, List.take_nil, Option.map_some, Option.map_none, Option.getD_some, Option.getD_none, Option.bind_some, List.cons_append, List.nil_append, List.append_nil, List.map_cons, List.map_nil, List.range_zero, List.take_zero, List.flatten_nil, List.filter_nil, List.length_nil, List.length_cons, List.drop_zero, List.not_mem_nil, List.mem_cons, Bool.true_eq_false, Bool.false_eq_true, Nat.reduceEqDiff, Nat.reduceAdd, List.getElem?_toArray, List.toList_toArray, List.getElem?_cons_zero, List.getElem?_cons_succ, decide_eq_true_eq, beq_self_eq_true, beq_true, beq_false, decide_true, decide_false, Bool.not_true, Bool.not_false, true_and, and_true, or_false, false_or, Bool.and_eq_true, reduceCtorEq, not_false_eq_true, cat_u, lit_strL, List.append_assoc, rv25, zeroX_at, T46, boxO, T3, T9, U3, U9, U22, U37, fa46_0, fa46_1, fa46_2, fa46_3, fa46_4, fa46_5, P3, P9, len_cols, d1, d2, d3, ia_cols cols i hi, Q54, T54, fa54_0, fa54_1, fr54_0, fr54_1, ref_cols cols i hi, Q9, strL_eq, h4] <;> ((try simp only [List.length_append, List.length_cons, List.length_nil, SLIM]); omega)
  · have e : colL cols d a = [36] ++ Lib.itoa d ++ [46] ++ Lib.itoa a := by unfold colL; rw [if_pos (.inl h1)]
    have d1 : decide (d = 0) = false := decide_eq_false h1
    rw [e]
    simp -implicitDefEqProofs (maxSteps := 1000000) only [Tryd.f25, ↓zD, zU, Nat.zero_mul, Nat.reduceMul, List.length_map, Tk.nm.injEq, Tk.cell.injEq, false_and, and_false, Nat.le_add_right, Nat.le_refl, ↓reduceIte, Bool.or_false, Bool.false_or, Bool.and_true, Bool.true_and, Bool.false_and, Bool.true_or, Bool.or_true, Option.isNone_none, Option.isNone_some, List.any_cons, List.any_nil, Bool.and_false, Nat.reduceBEq, Nat.reduceLeDiff, Int.reduceLT, Int.reduceEq, Int.reduceLE, Int.reduceAdd, Int.reduceToNat, Int.reduceNeg, Int.cast_ofNat_Int, Nat.reduceLT, List.drop_succ_cons, List.take_succ_cons, List.singleton_append, Nat.zero_add, List.set_cons_zero, List.set_cons_succ, List.drop_nil, List.take_nil, Option.map_some, Option.map_none, Option.getD_some, Option.getD_none, Option.bind_some, List.cons_append, List.nil_append, List.append_nil, List.map_cons, List.map_nil, List.range_zero, List.take_zero, List.flatten_nil, List.filter_nil, List.length_nil, List.length_cons, List.drop_zero, List.not_mem_nil, List.mem_cons, Bool.true_eq_false, Bool.false_eq_true, Nat.reduceEqDiff, Nat.reduceAdd, List.getElem?_toArray, List.toList_toArray, List.getElem?_cons_zero, List.getElem?_cons_succ, decide_eq_true_eq, beq_self_eq_true, beq_true, beq_false, decide_true, decide_false, Bool.not_true, Bool.not_false, true_and, and_true, or_false, false_or, Bool.and_eq_true, reduceCtorEq, not_false_eq_true, cat_u, lit_strL, List.append_assoc, rv25, zeroX_at, T46, boxO, T3, T9, U3, U9, U22, U37, fa46_0, fa46_1, fa46_2, fa46_3, fa46_4, fa46_5, P3, P9, d1, numText_k _ _ (small_of hd), numText_k _ _ (small_of ha), pr_obj, obj16, call16] <;> ((try simp only [List.length_append, List.length_cons, List.length_nil, SLIM]); omega)
end

section
variable (tk : Tk) (a b c : List UInt8) (r : List (List UInt8)) {n : Nat} (hn : r.length = n)
include hn
theorem ia_t0 : indexAddrX (TT.of Tryd.prog) 37 (.of (.sl (txC (a :: r)) (n + 1))) (.of (.lit (.int .i64 0))) = out (.of (.ref (txC (a :: r)))) := by subst hn; exact ia_tx (a :: r) _ rfl 0 (by simp)
theorem ia_t1 : indexAddrX (TT.of Tryd.prog) 37 (.of (.sl (txC (a :: b :: r)) (n + 1 + 1))) (.of (.lit (.int .i64 1))) = out (.of (.ref (txC (b :: r)))) := by subst hn; exact ia_tx (a :: b :: r) _ rfl 1 (by simp)
theorem ia_o0 : indexAddrX (TT.of Tryd.prog) 37 (.own tk 9 1 (txC (a :: r)) (n + 1)) (.of (.lit (.int .i64 0))) = out (.of (.ref (txC (a :: r)))) := by subst hn; exact ia_tx (a :: r) _ rfl 0 (by simp)
theorem ia_o1 : indexAddrX (TT.of Tryd.prog) 37 (.own tk 9 1 (txC (a :: b :: r)) (n + 1 + 1)) (.of (.lit (.int .i64 1))) = out (.of (.ref (txC (b :: r)))) := by subst hn; exact ia_tx (a :: b :: r) _ rfl 1 (by simp)
theorem ia_o2 : indexAddrX (TT.of Tryd.prog) 37 (.own tk 9 1 (txC (a :: b :: c :: r)) (n + 1 + 1 + 1)) (.of (.lit (.int .i64 2))) = out (.of (.ref (txC (c :: r)))) := by subst hn; exact ia_tx (a :: b :: c :: r) _ rfl 2 (by simp)
omit hn in
theorem pc_t : pieceC (TT.of Tryd.prog) 9 (txC (a :: r)) = some (cstr (strL a)) := by
  show pieceC (TT.of Tryd.prog) 9 (cstr (strL a) :: txC r) = _
  simp only [Q9]
omit hn in
theorem txC_len (l : List (List UInt8)) : (txC l).length = l.length := by simp [txC]
theorem sl_t2 : sliceX (TT.of Tryd.prog) 37 (.of (.sl (txC (a :: b :: r)) (n + 1 + 1))) (some (.of (.lit (.int .i64 2)))) none = out (.of (.sl (txC r) n)) := by
  subst hn
  simp only [sliceX, E37, asSl, bndX, litInt]
  rw [if_pos ⟨by decide, by omega, by omega, by simp [txC]⟩]
  simp only [Int.toNat_natCast, Int.reduceToNat]
  exact congrArg (fun y => out (.of (.sl y r.length))) (List.take_of_length_le (Nat.le_trans (Nat.le_of_eq (txC_len r)) (Nat.le_of_eq (Nat.mul_one _).symm)))
theorem sl_o1 : sliceX (TT.of Tryd.prog) 37 (.own tk 9 1 (txC (a :: r)) (n + 1)) (some (.of (.lit (.int .i64 1)))) none = out (.of (.sl (txC r) n)) := by
  subst hn
  simp only [sliceX, E37, asSl, bndX, litInt]
  rw [if_pos ⟨by decide, by omega, by omega, by simp [txC]⟩]
  simp only [Int.toNat_natCast, Int.reduceToNat]
  exact congrArg (fun y => out (.of (.sl y r.length))) (List.take_of_length_le (Nat.le_trans (Nat.le_of_eq (txC_len r)) (Nat.le_of_eq (Nat.mul_one _).symm)))
end
theorem lt1 (n : Nat) : decide ((1 : Int) < ((n + 1 + 1 : Nat) : Int)) = true := decide_eq_true (by omega)
theorem lens_cons (a : List UInt8) (r : List (List UInt8)) : Lib.lens (a :: r) = a.length + Lib.lens r := by simp [Lib.lens]
theorem lens_nil : Lib.lens [] = 0 := rfl

set_option maxRecDepth 100000 in
theorem excases_call (l : List (List UInt8)) (h : Lib.lens l + 13 * l.length + 10 ≤ SLIM) : G1 27 [.of (.sl (txC l) l.length)] (xstr (strL (caseF [40, 99, 97, 115, 101] l))) := by
  generalize hW : caseF [40, 99, 97, 115, 101] l = w
  refine by_body rfl ok27 body27 ar27 rfl ?_
  simp -implicitDefEqProofs (maxSteps := 1000000) only [Tryd.f27, ↓zD, zU, Nat.zero_mul, Nat.reduceMul, List.length_map, Tk.nm.injEq, Tk.cell.injEq, false_and, and_false, Nat.le_add_right, Nat.le_refl, ↓reduceIte, Bool.or_false, Bool.false_or, Bool.and_true, Bool.true_and, Bool.false_and, Bool.true_or, Bool.or_true, Option.isNone_none, Option.isNone_some, List.any_cons, List.any_nil, Bool.and_false, Nat.reduceBEq, Nat.reduceLeDiff, Int.reduceLT, Int.reduceEq, Int.reduceLE, Int.reduceAdd, Int.reduceToNat, Int.reduceNeg, Int.cast_ofNat_Int, Nat.reduceLT, List.drop_succ_cons, List.take_succ_cons, List.singleton_append, Nat.zero_add, List.set_cons_zero, List.set_cons_succ, List.drop_nil, List.take_nil, Option.map_some, Option.map_none, Option.getD_some, Option.getD_none, Option.bind_some, List.cons_append, List.nil_append, List.append_nil, List.map_cons, List.map_nil, List.range_zero, List.take_zero, List.flatten_nil, List.filter_nil, List.length_nil, List.length_cons, List.drop_zero, List.not_mem_nil, List.mem_cons, Bool.true_eq_false, Bool.false_eq_true, Nat.reduceEqDiff, Nat.reduceAdd, List.getElem?_toArray, List.toList_toArray, List.getElem?_cons_zero, List.getElem?_cons_succ, decide_eq_true_eq, beq_self_eq_true, beq_true, beq_false, decide_true, decide_false, Bool.not_true, Bool.not_false, true_and, and_true, or_false, false_or, Bool.and_eq_true, reduceCtorEq, not_false_eq_true, cat_u, lit_strL, List.append_assoc, rv27]
  refine WC_inv _ _ (fun m s => ∃ (o : List UInt8) (r : List (List UInt8)), m = r.length ∧ s.fr 0 = .of (.sl (txC r) r.length) ∧ s.fr 3 = xstr (strL o) ∧ s.objs = [] ∧ caseF o r = w ∧ o.length + Lib.lens r + 13 * r.length + 5 ≤ SLIM) ?_ l.length _ ?_
  · rintro m s ⟨o, r, rfl, h0, h3, ho, he, hb⟩
    match r with
    | a :: b :: r =>
      have d1 := lt1 r.length
      simp only [List.length_cons] at h0
      simp only [lens_cons, List.length_cons, SLIM] at hb
      simp -implicitDefEqProofs (maxSteps := 1000000) only [↓zD, zU, Nat.zero_mul, Nat.reduceMul, List.length_map, Tk.nm.injEq, Tk.cell.injEq, false_and, and_false, Nat.le_add_right, Nat.le_refl, ↓reduceIte, Bool.or_false, Bool.false_or, Bool.and_true, Bool.true_and, Bool.false_and, Bool.true_or, Bool.or_true, Option.isNone_none, Option.isNone_some, List.any_cons, List.any_nil, Bool.and_false, Nat.reduceBEq, Nat.reduceLeDiff, Int.reduceLT, Int.reduceEq, Int.reduceLE, Int.reduceAdd, Int.reduceToNat, Int.reduceNeg, Int.cast_ofNat_Int, Nat.reduceLT, List.drop_succ_cons, List.take_succ_cons, List.singleton_append, Nat.zero_add, List.set_cons_zero, List.set_cons_succ, List.drop_nil, List.take_nil, Option.map_some, Option.map_none, Option.getD_some, Option.getD_none, Option.bind_some, List.cons_append, List.nil_append, List.append_nil, List.map_cons, List.map_nil, List.range_zero, List.take_zero, List.flatten_nil, List.filter_nil, List.length_nil, List.length_cons, List.drop_zero, List.not_mem_nil, List.mem_cons, Bool.true_eq_false, Bool.false_eq_true, Nat.reduceEqDiff, Nat.reduceAdd, List.getElem?_toArray, List.toList_toArray, List.getElem?_cons_zero, List.getElem?_cons_succ, decide_eq_true_eq, beq_self_eq_true, beq_true, beq_false, decide_true, decide_false, Bool.not_true, Bool.not_false, true_and, and_true, or_false, false_or, Bool.and_eq_true, reduceCtorEq, not_false_eq_true, cat_u, lit_strL, List.append_assoc, h0, h3, ho, U37, U9, U3, d1, ia_t0, ia_t1, pc_t, sl_t2, rv27, Tryd.f27]
      refine ⟨by ((try simp only [List.length_append, List.length_cons, List.length_nil, SLIM]); omega), by ((try simp only [List.length_append, List.length_cons, List.length_nil, SLIM]); omega), by ((try simp only [List.length_append, List.length_cons, List.length_nil, SLIM]); omega), by ((try simp only [List.length_append, List.length_cons, List.length_nil, SLIM]); omega), r.length, by omega, _, r, rfl, rfl, rfl, ?_, by ((try simp only [List.length_append, List.length_cons, List.length_nil, SLIM]); omega)⟩
      rw [← he, caseF]
      congr 1
      simp
    | [a] =>
      simp only [List.length_cons, List.length_nil, Nat.zero_add] at h0
      simp only [lens_cons, lens_nil, List.length_cons, List.length_nil, SLIM] at hb
      simp only [caseF] at he
      subst he
      simp -implicitDefEqProofs (maxSteps := 1000000) only [↓zD, zU, Nat.zero_mul, Nat.reduceMul, List.length_map, Tk.nm.injEq, Tk.cell.injEq, false_and, and_false, Nat.le_add_right, Nat.le_refl, ↓reduceIte, Bool.or_false, Bool.false_or, Bool.and_true, Bool.true_and, Bool.false_and, Bool.true_or, Bool.or_true, Option.isNone_none, Option.isNone_some, List.any_cons, List.any_nil, Bool.and_false, Nat.reduceBEq, Nat.reduceLeDiff, Int.reduceLT, Int.reduceEq, Int.reduceLE, Int.reduceAdd, Int.reduceToNat, Int.reduceNeg, Int.cast_ofNat_Int, Nat.reduceLT, List.drop_succ_cons, List.take_succ_cons, List.singleton_append, Nat.zero_add, List.set_cons_zero, List.set_cons_succ, List.drop_nil, List.take_nil, Option.map_some, Option.map_none, Option.getD_some, Option.getD_none, Option.bind_some, List.cons_append, List.nil_append, List.append_nil, List.map_cons, List.map_nil, List.range_zero, List.take_zero, List.flatten_nil, List.filter_nil, List.length_nil, List.length_cons, List.drop_zero, List.not_mem_nil, List.mem_cons, Bool.true_eq_false, Bool.false_eq_true, Nat.reduceEqDiff, Nat.reduceAdd, List.getElem?_toArray, List.toList_toArray, List.getElem?_cons_zero, List.getElem?_cons_succ, decide_eq_true_eq, beq_self_eq_true, beq_true, beq_false, decide_true, decide_false, Bool.not_true, Bool.not_false, true_and, and_true, or_false, false_or, Bool.and_eq_true, reduceCtorEq, not_false_eq_true, cat_u, lit_strL, List.append_assoc, h0, h3, ho, U37, U9, U3, ia_t0, pc_t, rv27, Tryd.f27]
      <;> (and_intros <;> first | ((try simp only [List.length_append, List.length_cons, List.length_nil, SLIM]); omega) | rfl)
    | [] =>
      simp only [List.length_nil] at h0
      simp only [lens_nil, List.length_nil, SLIM] at hb
      simp only [caseF] at he
      subst he
      simp -implicitDefEqProofs (maxSteps := 1000000) only [↓zD, zU, Nat.zero_mul, Nat.reduceMul, List.length_map, Tk.nm.injEq, Tk.cell.injEq, false_and, and_false, Nat.le_add_right, Nat.le_refl, ↓reduceIte, Bool.or_false, Bool.false_or, Bool.and_true, Bool.true_and, Bool.false_and, Bool.true_or, Bool.or_true, Option.isNone_none, Option.isNone_some, List.any_cons, List.any_nil, Bool.and_false, Nat.reduceBEq, Nat.reduceLeDiff, Int.reduceLT, Int.reduceEq, Int.reduceLE, Int.reduceAdd, Int.reduceToNat, Int.reduceNeg, Int.cast_ofNat_Int, Nat.reduceLT, List.drop_succ_cons, List.take_succ_cons, List.singleton_append, Nat.zero_add, List.set_cons_zero, List.set_cons_succ, List.drop_nil, List.take_nil, Option.map_some, Option.map_none, Option.getD_some, Option.getD_none, Option.bind_some, List.cons_append, List.nil_append, List.append_nil, List.map_cons, List.map_nil, List.range_zero, List.take_zero, List.flatten_nil, List.filter_nil, List.length_nil, List.length_cons, List.drop_zero, List.not_mem_nil, List.mem_cons, Bool.true_eq_false, Bool.false_eq_true, Nat.reduceEqDiff, Nat.reduceAdd, List.getElem?_toArray, List.toList_toArray, List.getElem?_cons_zero, List.getElem?_cons_succ, decide_eq_true_eq, beq_self_eq_true, beq_true, beq_false, decide_true, decide_false, Bool.not_true, Bool.not_false, true_and, and_true, or_false, false_or, Bool.and_eq_true, reduceCtorEq, not_false_eq_true, cat_u, lit_strL, List.append_assoc, h0, h3, ho, U37, U9, U3, rv27, Tryd.f27]
      <;> (and_intros <;> first | ((try simp only [List.length_append, List.length_cons, List.length_nil, SLIM]); omega) | rfl)
  · exact ⟨[40, 99, 97, 115, 101], l, rfl, by simp -implicitDefEqProofs only [↓zD, zU, Nat.zero_mul, Nat.reduceMul, List.length_map, Tk.nm.injEq, Tk.cell.injEq, false_and, and_false, Nat.le_add_right, Nat.le_refl, ↓reduceIte, Bool.or_false, Bool.false_or, Bool.and_true, Bool.true_and, Bool.false_and, Bool.true_or, Bool.or_true, Option.isNone_none, Option.isNone_some, List.any_cons, List.any_nil, Bool.and_false, Nat.reduceBEq, Nat.reduceLeDiff, Int.reduceLT, Int.reduceEq, Int.reduceLE, Int.reduceAdd, Int.reduceToNat, Int.reduceNeg, Int.cast_ofNat_Int, Nat.reduceLT, List.drop_succ_cons, List.take_succ_cons, List.singleton_append, Nat.zero_add, List.set_cons_zero, List.set_cons_succ, List.drop_nil, List.take_nil, Option.map_some, Option.map_none, Option.getD_some, Option.getD_none, Option.bind_some, List.cons_append, List.nil_append, List.append_nil, List.map_cons, List.map_nil, List.range_zero, List.take_zero, List.flatten_nil, List.filter_nil, List.length_nil, List.length_cons, List.drop_zero, List.not_mem_nil, List.mem_cons, Bool.true_eq_false, Bool.false_eq_true, Nat.reduceEqDiff, Nat.reduceAdd, List.getElem?_toArray, List.toList_toArray, List.getElem?_cons_zero, List.getElem?_cons_succ, decide_eq_true_eq, beq_self_eq_true, beq_true, beq_false, decide_true, decide_false, Bool.not_true, Bool.not_false, true_and, and_true, or_false, false_or, Bool.and_eq_true, reduceCtorEq, not_false_eq_true, Z1u], by simp -implicitDefEqProofs only [↓zD, zU, Nat.zero_mul, Nat.reduceMul, List.length_map, Tk.nm.injEq, Tk.cell.injEq, false_and, and_false, Nat.le_add_right, Nat.le_refl, ↓reduceIte, Bool.or_false, Bool.false_or, Bool.and_true, Bool.true_and, Bool.false_and, Bool.true_or, Bool.or_true, Option.isNone_none, Option.isNone_some, List.any_cons, List.any_nil, Bool.and_false, Nat.reduceBEq, Nat.reduceLeDiff, Int.reduceLT, Int.reduceEq, Int.reduceLE, Int.reduceAdd, Int.reduceToNat, Int.reduceNeg, Int.cast_ofNat_Int, Nat.reduceLT, List.drop_succ_cons, List.take_succ_cons, List.singleton_append, Nat.zero_add, List.set_cons_zero, List.set_cons_succ, List.drop_nil, List.take_nil, Option.map_some, Option.map_none, Option.getD_some, Option.getD_none, Option.bind_some, List.cons_append, List.nil_append, List.append_nil, List.map_cons, List.map_nil, List.range_zero, List.take_zero, List.flatten_nil, List.filter_nil, List.length_nil, List.length_cons, List.drop_zero, List.not_mem_nil, List.mem_cons, Bool.true_eq_false, Bool.false_eq_true, Nat.reduceEqDiff, Nat.reduceAdd, List.getElem?_toArray, List.toList_toArray, List.getElem?_cons_zero, List.getElem?_cons_succ, decide_eq_true_eq, beq_self_eq_true, beq_true, beq_false, decide_true, decide_false, Bool.not_true, Bool.not_false, true_and, and_true, or_false, false_or, Bool.and_eq_true, reduceCtorEq, not_false_eq_true, Z1u], by simp -implicitDefEqProofs only [↓zD, zU, Nat.zero_mul, Nat.reduceMul, List.length_map, Tk.nm.injEq, Tk.cell.injEq, false_and, and_false, Nat.le_add_right, Nat.le_refl, ↓reduceIte, Bool.or_false, Bool.false_or, Bool.and_true, Bool.true_and, Bool.false_and, Bool.true_or, Bool.or_true, Option.isNone_none, Option.isNone_some, List.any_cons, List.any_nil, Bool.and_false, Nat.reduceBEq, Nat.reduceLeDiff, Int.reduceLT, Int.reduceEq, Int.reduceLE, Int.reduceAdd, Int.reduceToNat, Int.reduceNeg, Int.cast_ofNat_Int, Nat.reduceLT, List.drop_succ_cons, List.take_succ_cons, List.singleton_append, Nat.zero_add, List.set_cons_zero, List.set_cons_succ, List.drop_nil, List.take_nil, Option.map_some, Option.map_none, Option.getD_some, Option.getD_none, Option.bind_some, List.cons_append, List.nil_append, List.append_nil, List.map_cons, List.map_nil, List.range_zero, List.take_zero, List.flatten_nil, List.filter_nil, List.length_nil, List.length_cons, List.drop_zero, List.not_mem_nil, List.mem_cons, Bool.true_eq_false, Bool.false_eq_true, Nat.reduceEqDiff, Nat.reduceAdd, List.getElem?_toArray, List.toList_toArray, List.getElem?_cons_zero, List.getElem?_cons_succ, decide_eq_true_eq, beq_self_eq_true, beq_true, beq_false, decide_true, decide_false, Bool.not_true, Bool.not_false, true_and, and_true, or_false, false_or, Bool.and_eq_true, reduceCtorEq, not_false_eq_true, Z1u], hW, by simp only [List.length_cons, List.length_nil]; omega⟩
theorem excases_k (l : List (List UInt8)) (K : An → Prop) (h : Lib.lens l + 13 * l.length + 10 ≤ SLIM) : CallK Tryd.prog pr 27 [.of (.sl (txC l) l.length)] [] K ↔ K ⟨false, [xstr (strL (caseF [40, 99, 97, 115, 101] l))], []⟩ := Gives.k (excases_call l h) K

section
variable (cols : List Cl) (op k n d a ty : Int) (s : ByteArray) (nm : List UInt8) (kc sub : C) (hc : ClsOk cols) (hd : I64 d) (ha : I64 a)
include hc hd ha
set_option maxRecDepth 100000 in
theorem rcolumn_call : G1 29 [.of (.agg [ci op, ci k, ci n, cstr s, ci d, ci a, cstr (strL nm), kc, sub, ci ty]), .of (colsC cols)] (xstr (strL (colL cols d a))) := by
  have l1 := itoa_short d hd.1 hd.2
  have l2 := itoa_short a ha.1 ha.2
  refine by_body rfl ok29 body29 ar29 rfl ?_
  by_cases h1 : d = 0
  · have d1 : decide (d = 0) = true := decide_eq_true h1
    by_cases h2 : a < 0
    · have e : colL cols d a = [36] ++ Lib.itoa d ++ [46] ++ Lib.itoa a := by unfold colL; rw [if_pos (.inr (.inl h2))]
      have d2 : decide (a < 0) = true := decide_eq_true h2
      rw [e]
      simp -implicitDefEqProofs (maxSteps := 1000000) only [Tryd.f29, ↓zD, zU, Nat.zero_mul, Nat.reduceMul, List.length_map, Tk.nm.injEq, Tk.cell.injEq, false_and, and_false, Nat.le_add_right, Nat.le_refl, ↓reduceIte, Bool.or_false, Bool.false_or, Bool.and_true, Bool.true_and, Bool.false_and, Bool.true_or, Bool.or_true, Option.isNone_none, Option.isNone_some, List.any_cons, List.any_nil, Bool.and_false, Nat.reduceBEq, Nat.reduceLeDiff, Int.reduceLT, Int.reduceEq, Int.reduceLE, Int.reduceAdd, Int.reduceToNat, Int.reduceNeg, Int.cast_ofNat_Int, Nat.reduceLT, List.drop_succ_cons, List.take_succ_cons, List.singleton_append, Nat.zero_add, List.set_cons_zero, List.set_cons_succ, List.drop_nil, List.take_nil, Option.map_some, Option.map_none, Option.getD_some, Option.getD_none, Option.bind_some, List.cons_append, List.nil_append, List.append_nil, List.map_cons, List.map_nil, List.range_zero, List.take_zero, List.flatten_nil, List.filter_nil, List.length_nil, List.length_cons, List.drop_zero, List.not_mem_nil, List.mem_cons, Bool.true_eq_false, Bool.false_eq_true, Nat.reduceEqDiff, Nat.reduceAdd, List.getElem?_toArray, List.toList_toArray, List.getElem?_cons_zero, List.getElem?_cons_succ, decide_eq_true_eq, beq_self_eq_true, beq_true, beq_false, decide_true, decide_false, Bool.not_true, Bool.not_false, true_and, and_true, or_false, false_or, Bool.and_eq_true, reduceCtorEq, not_false_eq_true, cat_u, lit_strL, List.append_assoc, rv29, zeroX_at, T46, boxO, T3, T9, U3, U9, U22, U37, fa46_0, fa46_1, fa46_2, fa46_3, fa46_4, fa46_5, P3, P9, d1, d2, r2Text_k _ _ (small_of hd), r2Text_k _ _ (small_of ha), pr_obj, obj42, call42] <;> ((try simp only [List.length_append, List.length_cons, List.length_nil, SLIM]); omega)
    · have d2 : decide (a < 0) = false := decide_eq_false h2
      by_cases h3 : (cols.length : Int) ≤ a
      · have e : colL cols d a = [36] ++ Lib.itoa d ++ [46] ++ Lib.itoa a := by unfold colL; rw [if_pos (.inr (.inr h3))]
        have d3 : decide ((cols.length : Int) ≤ a) = true := decide_eq_true h3
        rw [e]
        simp -implicitDefEqProofs (maxSteps := 1000000) only [Tryd.f29, ↓zD, zU, Nat.zero_mul, Nat.reduceMul, List.length_map, Tk.nm.injEq, Tk.cell.injEq, false_and, and_false, Nat.le_add_right, Nat.le_refl, ↓reduceIte, Bool.or_false, Bool.false_or, Bool.and_true, Bool.true_and, Bool.false_and, Bool.true_or, Bool.or_true, Option.isNone_none, Option.isNone_some, List.any_cons, List.any_nil, Bool.and_false, Nat.reduceBEq, Nat.reduceLeDiff, Int.reduceLT, Int.reduceEq, Int.reduceLE, Int.reduceAdd, Int.reduceToNat, Int.reduceNeg, Int.cast_ofNat_Int, Nat.reduceLT, List.drop_succ_cons, List.take_succ_cons, List.singleton_append, Nat.zero_add, List.set_cons_zero, List.set_cons_succ, List.drop_nil, List.take_nil, Option.map_some, Option.map_none, Option.getD_some, Option.getD_none, Option.bind_some, List.cons_append, List.nil_append, List.append_nil, List.map_cons, List.map_nil, List.range_zero, List.take_zero, List.flatten_nil, List.filter_nil, List.length_nil, List.length_cons, List.drop_zero, List.not_mem_nil, List.mem_cons, Bool.true_eq_false, Bool.false_eq_true, Nat.reduceEqDiff, Nat.reduceAdd, List.getElem?_toArray, List.toList_toArray, List.getElem?_cons_zero, List.getElem?_cons_succ, decide_eq_true_eq, beq_self_eq_true, beq_true, beq_false, decide_true, decide_false, Bool.not_true, Bool.not_false, true_and, and_true, or_false, false_or, Bool.and_eq_true, reduceCtorEq, not_false_eq_true, cat_u, lit_strL, List.append_assoc, rv29, zeroX_at, T46, boxO, T3, T9, U3, U9, U22, U37, fa46_0, fa46_1, fa46_2, fa46_3, fa46_4, fa46_5, P3, P9, len_cols, d1, d2, d3, r2Text_k _ _ (small_of hd), r2Text_k _ _ (small_of ha), pr_obj, obj42, call42] <;> ((try simp only [List.length_append, List.length_cons, List.length_nil, SLIM]); omega)
      · have d3 : decide ((cols.length : Int) ≤ a) = false := decide_eq_false h3
        obtain ⟨i, hi, rfl, e1⟩ := ix_cols cols a (by omega) (by omega)
        have hw := hc _ (List.getElem_mem hi)
        unfold Cl.wt at hw
        by_cases h4 : cols[i].tb = []
        · have e : colL cols d i = cols[i].nm := by unfold colL; rw [if_neg (by omega), e1]; simp only [h4, if_true]
          rw [e]
          simp -implicitDefEqProofs (maxSteps := 1000000) only [Tryd.f29, ↓zD, zU, Nat.zero_mul, Nat.reduceMul, List.length_map, Tk.nm.injEq, Tk.cell.injEq, false_and, and_false, Nat.le_add_right, Nat.le_refl, ↓reduceIte, Bool.or_false, Bool.false_or, Bool.and_true, Bool.true_and, Bool.false_and, Bool.true_or, Bool.or_true, Option.isNone_none, Option.isNone_some, List.any_cons, List.any_nil, Bool.and_false, Nat.reduceBEq, Nat.reduceLeDiff, Int.reduceLT, Int.reduceEq, Int.reduceLE, Int.reduceAdd, Int.reduceToNat, Int.reduceNeg, Int.cast_ofNat_Int, Nat.reduceLT, List.drop_succ_cons, List.take_succ_cons, List.singleton_append, Nat.zero_add, List.set_cons_zero, List.set_cons_succ, List.drop_nil, List.take_nil, Option.map_some, Option.map_none, Option.getD_some, Option.getD_none, Option.bind_some, List.cons_append, List.nil_append, List.append_nil, List.map_cons, List.map_nil, List.range_zero, List.take_zero, List.flatten_nil, List.filter_nil, List.length_nil, List.length_cons, List.drop_zero, List.not_mem_nil, List.mem_cons, Bool.true_eq_false, Bool.false_eq_true, Nat.reduceEqDiff, Nat.reduceAdd, List.getElem?_toArray, List.toList_toArray, List.getElem?_cons_zero, List.getElem?_cons_succ, decide_eq_true_eq, beq_self_eq_true, beq_true, beq_false, decide_true, decide_false, Bool.not_true, Bool.not_false, true_and, and_true, or_false, false_or, Bool.and_eq_true, reduceCtorEq, not_false_eq_true, cat_u, lit_strL, List.append_assoc, rv29, zeroX_at, T46, boxO, T3, T9, U3, U9, U22, U37, fa46_0, fa46_1, fa46_2, fa46_3, fa46_4, fa46_5, P3, P9, len_cols, d1, d2, d3, ia_cols cols i hi, Q54, T54, fa54_0, fa54_1, fr54_0, fr54_1, ref_cols cols i hi, Q9, strL_eq, h4] <;> ((try simp only [List.length_append, List.length_cons, List.length_nil, SLIM]); omega)
        · have e : colL cols d i = cols[i].tb ++ [46] ++ cols[i].nm := by unfold colL; rw [if_neg (by omega), e1]; simp only [h4, if_false]
          rw [e]
          simp -implicitDefEqProofs (maxSteps := 1000000) only [Tryd.f29, ↓zD, zU, Nat.zero_mul, Nat.reduceMul, List.length_map, Tk.nm.injEq, Tk.cell.injEq, false_and, and_false, Nat.le_add_right, Nat.le_refl, ↓reduceIte, Bool.or_false, Bool.false_or, Bool.and_true, Bool.true_and, Bool.false_and, Bool.true_or, Bool.or_true, Option.isNone_none, Option.isNone_some, List.any_cons, List.any_nil, Bool.and_false, Nat.reduceBEq, Nat.reduceLeDiff, Int.reduceLT, Int.reduceEq, Int.reduceLE, Int.reduceAdd, Int.reduceToNat, Int.reduceNeg, Int.cast_ofNat_Int, Nat.reduceLT, List.drop_succ_cons, List.take_succ_cons, List.singleton_append, Nat.zero_add, List.set_cons_zero, List.set_cons_succ, List.drop_nil, List.take_nil, Option.map_some, Option.map_none, Option.getD_some, Option.getD_none, Option.bind_some, List.cons_append, List.nil_append, List.append_nil, List.map_cons, List.map_nil, List.range_zero, List.take_zero, List.flatten_nil, List.filter_nil, List.length_nil, List.length_cons, List.drop_zero, List.not_mem_nil, List.mem_cons, Bool.true_eq_false, Bool.false_eq_true, Nat.reduceEqDiff, Nat.reduceAdd, List.getElem?_toArray, List.toList_toArray, List.getElem?_cons_zero, List.getElem?_cons_succ, decide_eq_true_eq, beq_self_eq_true, beq_true, beq_false, decide_true, decide_false, Bool.not_true, Bool.not_false, true_and, and_true, or_false, false_or, Bool.and_eq_true, reduceCtorEq, not_false_eq_true, cat_u, lit_strL, List.append_assoc, rv29, zeroX_at, T46, boxO, T3, T9, U3, U9, U22, U37, fa46_0, fa46_1, fa46_2, fa46_3, fa46_4, fa46_5, P3, P9, len_cols, d1, d2, d3, ia_cols cols i hi, Q54, T54, fa54_0, fa54_1, fr54_0, fr54_1, ref_cols cols i hi, Q9, strL_eq, h4] <;> ((try simp only [List.length_append, List.length_cons, List.length_nil, SLIM]); omega)
  · have e : colL cols d a = [36] ++ Lib.itoa d ++ [46] ++ Lib.itoa a := by unfold colL; rw [if_pos (.inl h1)]
    have d1 : decide (d = 0) = false := decide_eq_false h1
    rw [e]
    simp -implicitDefEqProofs (maxSteps := 1000000) only [Tryd.f29, ↓zD, zU, Nat.zero_mul, Nat.reduceMul, List.length_map, Tk.nm.injEq, Tk.cell.injEq, false_and, and_false, Nat.le_add_right, Nat.le_refl, ↓reduceIte, Bool.or_false, Bool.false_or, Bool.and_true, Bool.true_and, Bool.false_and, Bool.true_or, Bool.or_true, Option.isNone_none, Option.isNone_some, List.any_cons, List.any_nil, Bool.and_false, Nat.reduceBEq, Nat.reduceLeDiff, Int.reduceLT, Int.reduceEq, Int.reduceLE, Int.reduceAdd, Int.reduceToNat, Int.reduceNeg, Int.cast_ofNat_Int, Nat.reduceLT, List.drop_succ_cons, List.take_succ_cons, List.singleton_append, Nat.zero_add, List.set_cons_zero, List.set_cons_succ, List.drop_nil, List.take_nil, Option.map_some, Option.map_none, Option.getD_some, Option.getD_none, Option.bind_some, List.cons_append, List.nil_append, List.append_nil, List.map_cons, List.map_nil, List.range_zero, List.take_zero, List.flatten_nil, List.filter_nil, List.length_nil, List.length_cons, List.drop_zero, List.not_mem_nil, List.mem_cons, Bool.true_eq_false, Bool.false_eq_true, Nat.reduceEqDiff, Nat.reduceAdd, List.getElem?_toArray, List.toList_toArray, List.getElem?_cons_zero, List.getElem?_cons_succ, decide_eq_true_eq, beq_self_eq_true, beq_true, beq_false, decide_true, decide_false, Bool.not_true, Bool.not_false, true_and, and_true, or_false, false_or, Bool.and_eq_true, reduceCtorEq, not_false_eq_true, cat_u, lit_strL, List.append_assoc, rv29, zeroX_at, T46, boxO, T3, T9, U3, U9, U22, U37, fa46_0, fa46_1, fa46_2, fa46_3, fa46_4, fa46_5, P3, P9, d1, r2Text_k _ _ (small_of hd), r2Text_k _ _ (small_of ha), pr_obj, obj42, call42] <;> ((try simp only [List.length_append, List.length_cons, List.length_nil, SLIM]); omega)
end
end Go.Proofs.YtfndkemgjhajnaaDoor
namespace Go.Proofs.YtfndkemgjhajnaaDoor
open Go Go.Pe Go.Tab

theorem bin_rem (P : Program) (T : TT) (t : Nat) (u : Option TypeDesc) (m n : Int) (h : n ≠ 0) : binX P T t u .rem (.of (.lit (.int .i64 m))) (.of (.lit (.int .i64 n))) = out (xint (m.tmod n)) := by simp [binX, litOf, binLit, binInt, outO, out, h]
theorem wrapS2 (n : Nat) (h : n < 4611686018427387904) : IntKind.i64.wrap ((n : Int) + 2) = ((n + 2 : Nat) : Int) := by rw [wrap64_ok _ (by omega) (by omega)]; rfl
theorem bin_rem2 (P : Program) (T : TT) (t : Nat) (u : Option TypeDesc) (m : Int) : binX P T t u .rem (.of (.lit (.int .i64 m))) (.of (.lit (.int .i64 2))) = out (xint (m.tmod 2)) := bin_rem P T t u m 2 (by decide)
theorem bs_s0 (tk : Tk) : buildSliceX tk 0 (Pe.elemOf (TT.of Tryd.prog) 37) (some []) = out (.own tk 9 1 [] 0) := bs_0 E37 (by decide) (by decide) tk
theorem bs_s1 (tk : Tk) (s : ByteArray) : buildSliceX tk 1 (Pe.elemOf (TT.of Tryd.prog) 37) (some [(0, [xstr s])]) = out (.own tk 9 1 [cstr s] 1) := bs_1 E37 rfl rfl tk _
theorem bs_s2 (tk : Tk) (a b : ByteArray) : buildSliceX tk 2 (Pe.elemOf (TT.of Tryd.prog) 37) (some [(0, [xstr a]), (1, [xstr b])]) = out (.own tk 9 1 [cstr a, cstr b] 2) := by
  rw [E37]
  rfl
theorem bs_s6 (tk : Tk) (a b c d e f : ByteArray) : buildSliceX tk 6 (Pe.elemOf (TT.of Tryd.prog) 37) (some [(0, [xstr a]), (1, [xstr b]), (2, [xstr c]), (3, [xstr d]), (4, [xstr e]), (5, [xstr f])]) = out (.own tk 9 1 [cstr a, cstr b, cstr c, cstr d, cstr e, cstr f] 6) := by
  rw [E37]
  rfl
section
variable (tk t t' : Tk) (l : List (List UInt8)) (s : List UInt8) {n : Nat} (h : n + 1 ≤ LIM)
include h
theorem ap_s1 : appendX (TT.of Tryd.prog) tk 37 37 (.own t 9 1 (txC l) n) (.own t' 9 1 [cstr (strL s)] 1) = some (.own tk 9 1 (txC (l ++ [s])) (n + 1), some t) := by
  have := ap_own E37 (by decide) (by decide) tk t (txC l) n (.own t' 9 1 [cstr (strL s)] 1) [cstr (strL s)] 1 rfl rfl h
  have e : txC (l ++ [s]) = txC l ++ [cstr (strL s)] := by simp [txC]
  rw [e]
  exact this
end
theorem ap_s1n (tk t' : Tk) (s : List UInt8) : appendX (TT.of Tryd.prog) tk 37 37 .nil (.own t' 9 1 [cstr (strL s)] 1) = out (.own tk 9 1 (txC [s]) 1) :=
  ap_nil E37 (by decide) (by decide) tk (.own t' 9 1 [cstr (strL s)] 1) [cstr (strL s)] 1 rfl rfl (by unfold LIM; omega)
theorem len_txt (u : Nat) (cs : List C) (n : Nat) : lenX (some (.slice u)) (.of (.sl cs n)) = out (xint n) := rfl
theorem join_take (l : List (List UInt8)) (sep : List UInt8) (k : Nat) (h : k < l.length) : Lib.join (l.take (k + 1)) sep = (if 0 < k then Lib.join (l.take k) sep ++ sep else Lib.join (l.take k) sep) ++ l[k] := by
  rw [List.take_succ_eq_append_getElem h]
  cases k with
  | zero => simp [Lib.join_nil, Lib.join_one]
  | succ k =>
    rw [if_pos (Nat.succ_pos k), join_snoc]
    exact fun e => by
      have := congrArg List.length e
      rw [List.length_take, Nat.min_eq_left (by omega)] at this
      cases this
theorem join_le (l : List (List UInt8)) (sep : List UInt8) : (Lib.join l sep).length ≤ sep.length * l.length + Lib.lens l := by
  cases l with
  | nil => simp [Lib.join_nil]
  | cons x r =>
    rw [Lib.join_length, List.length_cons, Nat.mul_succ]
    omega
theorem ia_txf (l : List (List UInt8)) (k : Nat) (h : k < l.length) : indexAddrX (TT.of Tryd.prog) 37 (.of (.sl (txC l) l.length)) (xint k) = out (.of (.ref ((txC l).drop k))) := ia_tx l _ rfl k h
theorem pc_tx (l : List (List UInt8)) (k : Nat) (h : k < l.length) : pieceC (TT.of Tryd.prog) 9 ((txC l).drop k) = some (cstr (strL l[k])) := by
  have : (txC l).drop k = cstr (strL l[k]) :: (txC l).drop (k + 1) := by
    have hk : k < (txC l).length := by simpa [txC] using h
    rw [List.drop_eq_getElem_cons hk]
    simp [txC]
  rw [this, Q9]

set_option maxRecDepth 100000 in
theorem rjoin_call (l : List (List UInt8)) (sep : List UInt8) (hs : sep.length = 2) (hb : 2 * l.length + Lib.lens l ≤ 70368744177664) : G1 31 [.of (.sl (txC l) l.length), .of (cstr (strL sep))] (xstr (strL (Lib.join l sep))) := by
  refine by_body rfl ok31 body31 ar31 rfl ?_
  simp -implicitDefEqProofs (maxSteps := 1000000) only [Tryd.f31, ↓zD, zU, Nat.zero_mul, Nat.reduceMul, List.length_map, Tk.nm.injEq, Tk.cell.injEq, false_and, and_false, Nat.le_add_right, Nat.le_refl, ↓reduceIte, Bool.or_false, Bool.false_or, Bool.and_true, Bool.true_and, Bool.false_and, Bool.true_or, Bool.or_true, Option.isNone_none, Option.isNone_some, List.any_cons, List.any_nil, Bool.and_false, Nat.reduceBEq, Nat.reduceLeDiff, Int.reduceLT, Int.reduceEq, Int.reduceLE, Int.reduceAdd, Int.reduceToNat, Int.reduceNeg, Int.cast_ofNat_Int, Nat.reduceLT, List.drop_succ_cons, List.take_succ_cons, List.singleton_append, Nat.zero_add, List.set_cons_zero, List.set_cons_succ, List.drop_nil, List.take_nil, Option.map_some, Option.map_none, Option.getD_some, Option.getD_none, Option.bind_some, List.cons_append, List.nil_append, List.append_nil, List.map_cons, List.map_nil, List.range_zero, List.take_zero, List.flatten_nil, List.filter_nil, List.length_nil, List.length_cons, List.drop_zero, List.not_mem_nil, List.mem_cons, Bool.true_eq_false, Bool.false_eq_true, Nat.reduceEqDiff, Nat.reduceAdd, List.getElem?_toArray, List.toList_toArray, List.getElem?_cons_zero, List.getElem?_cons_succ, decide_eq_true_eq, beq_self_eq_true, beq_true, beq_false, decide_true, decide_false, Bool.not_true, Bool.not_false, true_and, and_true, or_false, false_or, Bool.and_eq_true, reduceCtorEq, not_false_eq_true, cat_u, lit_strL, List.append_assoc, rv31]
  refine WC_inv _ _ (fun m s => ∃ k : Nat, k ≤ l.length ∧ m = l.length - k ∧ s.fr 0 = .of (.sl (txC l) l.length) ∧ s.fr 1 = .of (cstr (strL sep)) ∧ s.fr 6 = xint k ∧ s.objs = [] ∧ s.fr 5 = xstr (strL (Lib.join (l.take k) sep))) ?_ l.length _ ?_
  · rintro m s ⟨k, hk1, rfl, h0, h1, h6, ho, h5⟩
    have hw := wrapS k (by omega)
    have hj := join_le (l.take k) sep
    have hj1 := Lib.lens_take_le l k
    rw [List.length_take, Nat.min_eq_left hk1, hs] at hj
    by_cases c1 : k < l.length
    · have d1 : decide ((k : Int) < (l.length : Int)) = true := decide_eq_true (by omega)
      have hjt := join_take l sep k c1
      have hjx := Lib.lens_take_succ l k l[k] (List.getElem?_eq_getElem c1)
      have hj2 := Lib.lens_take_le l (k + 1)
      by_cases c2 : 0 < k
      · have d2 : decide ((0 : Int) < (k : Int)) = true := decide_eq_true (by omega)
        rw [if_pos c2] at hjt
        simp -implicitDefEqProofs (maxSteps := 1000000) only [↓zD, zU, Nat.zero_mul, Nat.reduceMul, List.length_map, Tk.nm.injEq, Tk.cell.injEq, false_and, and_false, Nat.le_add_right, Nat.le_refl, ↓reduceIte, Bool.or_false, Bool.false_or, Bool.and_true, Bool.true_and, Bool.false_and, Bool.true_or, Bool.or_true, Option.isNone_none, Option.isNone_some, List.any_cons, List.any_nil, Bool.and_false, Nat.reduceBEq, Nat.reduceLeDiff, Int.reduceLT, Int.reduceEq, Int.reduceLE, Int.reduceAdd, Int.reduceToNat, Int.reduceNeg, Int.cast_ofNat_Int, Nat.reduceLT, List.drop_succ_cons, List.take_succ_cons, List.singleton_append, Nat.zero_add, List.set_cons_zero, List.set_cons_succ, List.drop_nil, List.take_nil, Option.map_some, Option.map_none, Option.getD_some, Option.getD_none, Option.bind_some, List.cons_append, List.nil_append, List.append_nil, List.map_cons, List.map_nil, List.range_zero, List.take_zero, List.flatten_nil, List.filter_nil, List.length_nil, List.length_cons, List.drop_zero, List.not_mem_nil, List.mem_cons, Bool.true_eq_false, Bool.false_eq_true, Nat.reduceEqDiff, Nat.reduceAdd, List.getElem?_toArray, List.toList_toArray, List.getElem?_cons_zero, List.getElem?_cons_succ, decide_eq_true_eq, beq_self_eq_true, beq_true, beq_false, decide_true, decide_false, Bool.not_true, Bool.not_false, true_and, and_true, or_false, false_or, Bool.and_eq_true, reduceCtorEq, not_false_eq_true, cat_u, lit_strL, List.append_assoc, h0, h1, h5, h6, ho, U3, U9, U37, T9, T3, T37, len_txt, pc_t, d1, d2, ia_txf l k c1, pc_tx l k c1, hw]
        refine ⟨by ((try simp only [List.length_append, List.length_cons, List.length_nil, SLIM]); omega), by ((try simp only [List.length_append, List.length_cons, List.length_nil, SLIM]); omega), _, ?_, k + 1, by omega, rfl, rfl, by rw [hjt]; simp⟩
        omega
      · have d2 : decide ((0 : Int) < (k : Int)) = false := decide_eq_false (by omega)
        rw [if_neg c2] at hjt
        simp -implicitDefEqProofs (maxSteps := 1000000) only [↓zD, zU, Nat.zero_mul, Nat.reduceMul, List.length_map, Tk.nm.injEq, Tk.cell.injEq, false_and, and_false, Nat.le_add_right, Nat.le_refl, ↓reduceIte, Bool.or_false, Bool.false_or, Bool.and_true, Bool.true_and, Bool.false_and, Bool.true_or, Bool.or_true, Option.isNone_none, Option.isNone_some, List.any_cons, List.any_nil, Bool.and_false, Nat.reduceBEq, Nat.reduceLeDiff, Int.reduceLT, Int.reduceEq, Int.reduceLE, Int.reduceAdd, Int.reduceToNat, Int.reduceNeg, Int.cast_ofNat_Int, Nat.reduceLT, List.drop_succ_cons, List.take_succ_cons, List.singleton_append, Nat.zero_add, List.set_cons_zero, List.set_cons_succ, List.drop_nil, List.take_nil, Option.map_some, Option.map_none, Option.getD_some, Option.getD_none, Option.bind_some, List.cons_append, List.nil_append, List.append_nil, List.map_cons, List.map_nil, List.range_zero, List.take_zero, List.flatten_nil, List.filter_nil, List.length_nil, List.length_cons, List.drop_zero, List.not_mem_nil, List.mem_cons, Bool.true_eq_false, Bool.false_eq_true, Nat.reduceEqDiff, Nat.reduceAdd, List.getElem?_toArray, List.toList_toArray, List.getElem?_cons_zero, List.getElem?_cons_succ, decide_eq_true_eq, beq_self_eq_true, beq_true, beq_false, decide_true, decide_false, Bool.not_true, Bool.not_false, true_and, and_true, or_false, false_or, Bool.and_eq_true, reduceCtorEq, not_false_eq_true, cat_u, lit_strL, List.append_assoc, h0, h1, h5, h6, ho, U3, U9, U37, T9, T3, T37, len_txt, pc_t, d1, d2, ia_txf l k c1, pc_tx l k c1, hw]
        refine ⟨by ((try simp only [List.length_append, List.length_cons, List.length_nil, SLIM]); omega), _, ?_, k + 1, by omega, rfl, rfl, by rw [hjt]⟩
        omega
    · have d1 : decide ((k : Int) < (l.length : Int)) = false := decide_eq_false (by omega)
      rw [List.take_of_length_le (by omega)] at h5
      simp -implicitDefEqProofs (maxSteps := 1000000) only [↓zD, zU, Nat.zero_mul, Nat.reduceMul, List.length_map, Tk.nm.injEq, Tk.cell.injEq, false_and, and_false, Nat.le_add_right, Nat.le_refl, ↓reduceIte, Bool.or_false, Bool.false_or, Bool.and_true, Bool.true_and, Bool.false_and, Bool.true_or, Bool.or_true, Option.isNone_none, Option.isNone_some, List.any_cons, List.any_nil, Bool.and_false, Nat.reduceBEq, Nat.reduceLeDiff, Int.reduceLT, Int.reduceEq, Int.reduceLE, Int.reduceAdd, Int.reduceToNat, Int.reduceNeg, Int.cast_ofNat_Int, Nat.reduceLT, List.drop_succ_cons, List.take_succ_cons, List.singleton_append, Nat.zero_add, List.set_cons_zero, List.set_cons_succ, List.drop_nil, List.take_nil, Option.map_some, Option.map_none, Option.getD_some, Option.getD_none, Option.bind_some, List.cons_append, List.nil_append, List.append_nil, List.map_cons, List.map_nil, List.range_zero, List.take_zero, List.flatten_nil, List.filter_nil, List.length_nil, List.length_cons, List.drop_zero, List.not_mem_nil, List.mem_cons, Bool.true_eq_false, Bool.false_eq_true, Nat.reduceEqDiff, Nat.reduceAdd, List.getElem?_toArray, List.toList_toArray, List.getElem?_cons_zero, List.getElem?_cons_succ, decide_eq_true_eq, beq_self_eq_true, beq_true, beq_false, decide_true, decide_false, Bool.not_true, Bool.not_false, true_and, and_true, or_false, false_or, Bool.and_eq_true, reduceCtorEq, not_false_eq_true, cat_u, lit_strL, List.append_assoc, h0, h1, h5, h6, ho, U3, U9, U37, T9, T3, T37, len_txt, pc_t, d1, rv31, Tryd.f31]
  · exact ⟨0, by omega, by omega, by simp -implicitDefEqProofs only [↓zD, zU, Nat.zero_mul, Nat.reduceMul, List.length_map, Tk.nm.injEq, Tk.cell.injEq, false_and, and_false, Nat.le_add_right, Nat.le_refl, ↓reduceIte, Bool.or_false, Bool.false_or, Bool.and_true, Bool.true_and, Bool.false_and, Bool.true_or, Bool.or_true, Option.isNone_none, Option.isNone_some, List.any_cons, List.any_nil, Bool.and_false, Nat.reduceBEq, Nat.reduceLeDiff, Int.reduceLT, Int.reduceEq, Int.reduceLE, Int.reduceAdd, Int.reduceToNat, Int.reduceNeg, Int.cast_ofNat_Int, Nat.reduceLT, List.drop_succ_cons, List.take_succ_cons, List.singleton_append, Nat.zero_add, List.set_cons_zero, List.set_cons_succ, List.drop_nil, List.take_nil, Option.map_some, Option.map_none, Option.getD_some, Option.getD_none, Option.bind_some, List.cons_append, List.nil_append, List.append_nil, List.map_cons, List.map_nil, List.range_zero, List.take_zero, List.flatten_nil, List.filter_nil, List.length_nil, List.length_cons, List.drop_zero, List.not_mem_nil, List.mem_cons, Bool.true_eq_false, Bool.false_eq_true, Nat.reduceEqDiff, Nat.reduceAdd, List.getElem?_toArray, List.toList_toArray, List.getElem?_cons_zero, List.getElem?_cons_succ, decide_eq_true_eq, beq_self_eq_true, beq_true, beq_false, decide_true, decide_false, Bool.not_true, Bool.not_false, true_and, and_true, or_false, false_or, Bool.and_eq_true, reduceCtorEq, not_false_eq_true, Z1u], by simp -implicitDefEqProofs only [↓zD, zU, Nat.zero_mul, Nat.reduceMul, List.length_map, Tk.nm.injEq, Tk.cell.injEq, false_and, and_false, Nat.le_add_right, Nat.le_refl, ↓reduceIte, Bool.or_false, Bool.false_or, Bool.and_true, Bool.true_and, Bool.false_and, Bool.true_or, Bool.or_true, Option.isNone_none, Option.isNone_some, List.any_cons, List.any_nil, Bool.and_false, Nat.reduceBEq, Nat.reduceLeDiff, Int.reduceLT, Int.reduceEq, Int.reduceLE, Int.reduceAdd, Int.reduceToNat, Int.reduceNeg, Int.cast_ofNat_Int, Nat.reduceLT, List.drop_succ_cons, List.take_succ_cons, List.singleton_append, Nat.zero_add, List.set_cons_zero, List.set_cons_succ, List.drop_nil, List.take_nil, Option.map_some, Option.map_none, Option.getD_some, Option.getD_none, Option.bind_some, List.cons_append, List.nil_append, List.append_nil, List.map_cons, List.map_nil, List.range_zero, List.take_zero, List.flatten_nil, List.filter_nil, List.length_nil, List.length_cons, List.drop_zero, List.not_mem_nil, List.mem_cons, Bool.true_eq_false, Bool.false_eq_true, Nat.reduceEqDiff, Nat.reduceAdd, List.getElem?_toArray, List.toList_toArray, List.getElem?_cons_zero, List.getElem?_cons_succ, decide_eq_true_eq, beq_self_eq_true, beq_true, beq_false, decide_true, decide_false, Bool.not_true, Bool.not_false, true_and, and_true, or_false, false_or, Bool.and_eq_true, reduceCtorEq, not_false_eq_true, Z1u], by simp -implicitDefEqProofs only [↓zD, zU, Nat.zero_mul, Nat.reduceMul, List.length_map, Tk.nm.injEq, Tk.cell.injEq, false_and, and_false, Nat.le_add_right, Nat.le_refl, ↓reduceIte, Bool.or_false, Bool.false_or, Bool.and_true, Bool.true_and, Bool.false_and, Bool.true_or, Bool.or_true, Option.isNone_none, Option.isNone_some, List.any_cons, List.any_nil, Bool.and_false, Nat.reduceBEq, Nat.reduceLeDiff, Int.reduceLT, Int.reduceEq, Int.reduceLE, Int.reduceAdd, Int.reduceToNat, Int.reduceNeg, Int.cast_ofNat_Int, Nat.reduceLT, List.drop_succ_cons, List.take_succ_cons, List.singleton_append, Nat.zero_add, List.set_cons_zero, List.set_cons_succ, List.drop_nil, List.take_nil, Option.map_some, Option.map_none, Option.getD_some, Option.getD_none, Option.bind_some, List.cons_append, List.nil_append, List.append_nil, List.map_cons, List.map_nil, List.range_zero, List.take_zero, List.flatten_nil, List.filter_nil, List.length_nil, List.length_cons, List.drop_zero, List.not_mem_nil, List.mem_cons, Bool.true_eq_false, Bool.false_eq_true, Nat.reduceEqDiff, Nat.reduceAdd, List.getElem?_toArray, List.toList_toArray, List.getElem?_cons_zero, List.getElem?_cons_succ, decide_eq_true_eq, beq_self_eq_true, beq_true, beq_false, decide_true, decide_false, Bool.not_true, Bool.not_false, true_and, and_true, or_false, false_or, Bool.and_eq_true, reduceCtorEq, not_false_eq_true, Z1u] <;> rfl, by simp -implicitDefEqProofs only [↓zD, zU, Nat.zero_mul, Nat.reduceMul, List.length_map, Tk.nm.injEq, Tk.cell.injEq, false_and, and_false, Nat.le_add_right, Nat.le_refl, ↓reduceIte, Bool.or_false, Bool.false_or, Bool.and_true, Bool.true_and, Bool.false_and, Bool.true_or, Bool.or_true, Option.isNone_none, Option.isNone_some, List.any_cons, List.any_nil, Bool.and_false, Nat.reduceBEq, Nat.reduceLeDiff, Int.reduceLT, Int.reduceEq, Int.reduceLE, Int.reduceAdd, Int.reduceToNat, Int.reduceNeg, Int.cast_ofNat_Int, Nat.reduceLT, List.drop_succ_cons, List.take_succ_cons, List.singleton_append, Nat.zero_add, List.set_cons_zero, List.set_cons_succ, List.drop_nil, List.take_nil, Option.map_some, Option.map_none, Option.getD_some, Option.getD_none, Option.bind_some, List.cons_append, List.nil_append, List.append_nil, List.map_cons, List.map_nil, List.range_zero, List.take_zero, List.flatten_nil, List.filter_nil, List.length_nil, List.length_cons, List.drop_zero, List.not_mem_nil, List.mem_cons, Bool.true_eq_false, Bool.false_eq_true, Nat.reduceEqDiff, Nat.reduceAdd, List.getElem?_toArray, List.toList_toArray, List.getElem?_cons_zero, List.getElem?_cons_succ, decide_eq_true_eq, beq_self_eq_true, beq_true, beq_false, decide_true, decide_false, Bool.not_true, Bool.not_false, true_and, and_true, or_false, false_or, Bool.and_eq_true, reduceCtorEq, not_false_eq_true, Z1u], by simp -implicitDefEqProofs only [↓zD, zU, Nat.zero_mul, Nat.reduceMul, List.length_map, Tk.nm.injEq, Tk.cell.injEq, false_and, and_false, Nat.le_add_right, Nat.le_refl, ↓reduceIte, Bool.or_false, Bool.false_or, Bool.and_true, Bool.true_and, Bool.false_and, Bool.true_or, Bool.or_true, Option.isNone_none, Option.isNone_some, List.any_cons, List.any_nil, Bool.and_false, Nat.reduceBEq, Nat.reduceLeDiff, Int.reduceLT, Int.reduceEq, Int.reduceLE, Int.reduceAdd, Int.reduceToNat, Int.reduceNeg, Int.cast_ofNat_Int, Nat.reduceLT, List.drop_succ_cons, List.take_succ_cons, List.singleton_append, Nat.zero_add, List.set_cons_zero, List.set_cons_succ, List.drop_nil, List.take_nil, Option.map_some, Option.map_none, Option.getD_some, Option.getD_none, Option.bind_some, List.cons_append, List.nil_append, List.append_nil, List.map_cons, List.map_nil, List.range_zero, List.take_zero, List.flatten_nil, List.filter_nil, List.length_nil, List.length_cons, List.drop_zero, List.not_mem_nil, List.mem_cons, Bool.true_eq_false, Bool.false_eq_true, Nat.reduceEqDiff, Nat.reduceAdd, List.getElem?_toArray, List.toList_toArray, List.getElem?_cons_zero, List.getElem?_cons_succ, decide_eq_true_eq, beq_self_eq_true, beq_true, beq_false, decide_true, decide_false, Bool.not_true, Bool.not_false, true_and, and_true, or_false, false_or, Bool.and_eq_true, reduceCtorEq, not_false_eq_true, Z1u] <;> rfl⟩
theorem rjoin_k (l : List (List UInt8)) (sep : List UInt8) (K : An → Prop) (hs : sep.length = 2) (hb : 2 * l.length + Lib.lens l ≤ 70368744177664) : CallK Tryd.prog pr 31 [.of (.sl (txC l) l.length), .of (cstr (strL sep))] [] K ↔ K ⟨false, [xstr (strL (Lib.join l sep))], []⟩ := Gives.k (rjoin_call l sep hs hb) K

set_option maxRecDepth 100000 in
theorem rcases_call (l : List (List UInt8)) (h : Lib.lens l + 13 * l.length + 10 ≤ SLIM) : G1 32 [.of (.sl (txC l) l.length)] (xstr (strL (caseF [40, 99, 97, 115, 101] l))) := by
  generalize hW : caseF [40, 99, 97, 115, 101] l = w
  have hS : SLIM = 140737488355328 := rfl
  refine by_body rfl ok32 body32 ar32 rfl ?_
  simp -implicitDefEqProofs (maxSteps := 1000000) only [Tryd.f32, ↓zD, zU, Nat.zero_mul, Nat.reduceMul, List.length_map, Tk.nm.injEq, Tk.cell.injEq, false_and, and_false, Nat.le_add_right, Nat.le_refl, ↓reduceIte, Bool.or_false, Bool.false_or, Bool.and_true, Bool.true_and, Bool.false_and, Bool.true_or, Bool.or_true, Option.isNone_none, Option.isNone_some, List.any_cons, List.any_nil, Bool.and_false, Nat.reduceBEq, Nat.reduceLeDiff, Int.reduceLT, Int.reduceEq, Int.reduceLE, Int.reduceAdd, Int.reduceToNat, Int.reduceNeg, Int.cast_ofNat_Int, Nat.reduceLT, List.drop_succ_cons, List.take_succ_cons, List.singleton_append, Nat.zero_add, List.set_cons_zero, List.set_cons_succ, List.drop_nil, List.take_nil, Option.map_some, Option.map_none, Option.getD_some, Option.getD_none, Option.bind_some, List.cons_append, List.nil_append, List.append_nil, List.map_cons, List.map_nil, List.range_zero, List.take_zero, List.flatten_nil, List.filter_nil, List.length_nil, List.length_cons, List.drop_zero, List.not_mem_nil, List.mem_cons, Bool.true_eq_false, Bool.false_eq_true, Nat.reduceEqDiff, Nat.reduceAdd, List.getElem?_toArray, List.toList_toArray, List.getElem?_cons_zero, List.getElem?_cons_succ, decide_eq_true_eq, beq_self_eq_true, beq_true, beq_false, decide_true, decide_false, Bool.not_true, Bool.not_false, true_and, and_true, or_false, false_or, Bool.and_eq_true, reduceCtorEq, not_false_eq_true, cat_u, lit_strL, List.append_assoc, rv32]
  refine WC_inv _ _ (fun m s => ∃ (o : List UInt8) (k : Nat), k ≤ l.length ∧ m = l.length - k ∧ k % 2 = 0 ∧ s.fr 0 = .of (.sl (txC l) l.length) ∧ s.fr 4 = xint k ∧ s.fr 3 = xstr (strL o) ∧ s.objs = [] ∧ caseF o (l.drop k) = w ∧ o.length + Lib.lens (l.drop k) + 13 * (l.length - k) + 5 ≤ SLIM) ?_ l.length _ ?_
  · rintro m s ⟨o, k, hk1, rfl, hk2, h0, h4, h3, ho, he, hb⟩
    have hw1 := wrapS k (by omega)
    have hw2 := wrapS2 k (by omega)
    by_cases c1 : k + 1 < l.length
    · have d1 : decide (((k + 1 : Nat) : Int) < (l.length : Int)) = true := decide_eq_true (by omega)
      have e1 : l.drop k = l[k] :: l[k + 1] :: l.drop (k + 2) := by
        rw [List.drop_eq_getElem_cons (by omega : k < l.length), List.drop_eq_getElem_cons c1]
      rw [e1] at he hb
      rw [lens_cons, lens_cons] at hb
      have e2 := pc_tx l (k + 1) c1
      have e3 := ia_txf l (k + 1) c1
      simp -implicitDefEqProofs (maxSteps := 1000000) only [↓zD, zU, Nat.zero_mul, Nat.reduceMul, List.length_map, Tk.nm.injEq, Tk.cell.injEq, false_and, and_false, Nat.le_add_right, Nat.le_refl, ↓reduceIte, Bool.or_false, Bool.false_or, Bool.and_true, Bool.true_and, Bool.false_and, Bool.true_or, Bool.or_true, Option.isNone_none, Option.isNone_some, List.any_cons, List.any_nil, Bool.and_false, Nat.reduceBEq, Nat.reduceLeDiff, Int.reduceLT, Int.reduceEq, Int.reduceLE, Int.reduceAdd, Int.reduceToNat, Int.reduceNeg, Int.cast_ofNat_Int, Nat.reduceLT, List.drop_succ_cons, List.take_succ_cons, List.singleton_append, Nat.zero_add, List.set_cons_zero, List.set_cons_succ, List.drop_nil, List.take_nil, Option.map_some, Option.map_none, Option.getD_some, Option.getD_none, Option.bind_some, List.cons_append, List.nil_append, List.append_nil, List.map_cons, List.map_nil, List.range_zero, List.take_zero, List.flatten_nil, List.filter_nil, List.length_nil, List.length_cons, List.drop_zero, List.not_mem_nil, List.mem_cons, Bool.true_eq_false, Bool.false_eq_true, Nat.reduceEqDiff, Nat.reduceAdd, List.getElem?_toArray, List.toList_toArray, List.getElem?_cons_zero, List.getElem?_cons_succ, decide_eq_true_eq, beq_self_eq_true, beq_true, beq_false, decide_true, decide_false, Bool.not_true, Bool.not_false, true_and, and_true, or_false, false_or, Bool.and_eq_true, reduceCtorEq, not_false_eq_true, cat_u, lit_strL, List.append_assoc, h0, h3, h4, ho, U3, U9, U37, T9, T3, T37, len_txt, pc_t, d1, hw1, hw2, ia_txf l k (by omega), pc_tx l k (by omega), e2, e3]
      refine ⟨by ((try simp only [List.length_append, List.length_cons, List.length_nil, SLIM]); omega), by ((try simp only [List.length_append, List.length_cons, List.length_nil, SLIM]); omega), by ((try simp only [List.length_append, List.length_cons, List.length_nil, SLIM]); omega), by ((try simp only [List.length_append, List.length_cons, List.length_nil, SLIM]); omega), l.length - (k + 2), by omega, _, k + 2, by omega, rfl, by omega, rfl, rfl, ?_, by ((try simp only [List.length_append, List.length_cons, List.length_nil, SLIM]); omega)⟩
      rw [← he, caseF]
      congr 1
      simp
    · have d1 : decide (((k + 1 : Nat) : Int) < (l.length : Int)) = false := decide_eq_false (by omega)
      by_cases c2 : k < l.length
      · have e1 : l.drop k = [l[k]] := by
          rw [List.drop_eq_getElem_cons c2, List.drop_of_length_le (by omega)]
        rw [e1] at he hb
        simp only [lens_cons, lens_nil] at hb
        simp only [caseF] at he
        subst he
        have hq : l.length = k + 1 := by omega
        have d2 : decide ((l.length : Int).tmod 2 = 1) = true := decide_eq_true (by rw [Int.tmod_eq_emod_of_nonneg (by omega)]; omega)
        have hw3 : IntKind.i64.wrap ((l.length : Int) - 1) = (k : Int) := by rw [wrap64_ok _ (by omega) (by omega)]; omega
        simp -implicitDefEqProofs (maxSteps := 1000000) only [↓zD, zU, Nat.zero_mul, Nat.reduceMul, List.length_map, Tk.nm.injEq, Tk.cell.injEq, false_and, and_false, Nat.le_add_right, Nat.le_refl, ↓reduceIte, Bool.or_false, Bool.false_or, Bool.and_true, Bool.true_and, Bool.false_and, Bool.true_or, Bool.or_true, Option.isNone_none, Option.isNone_some, List.any_cons, List.any_nil, Bool.and_false, Nat.reduceBEq, Nat.reduceLeDiff, Int.reduceLT, Int.reduceEq, Int.reduceLE, Int.reduceAdd, Int.reduceToNat, Int.reduceNeg, Int.cast_ofNat_Int, Nat.reduceLT, List.drop_succ_cons, List.take_succ_cons, List.singleton_append, Nat.zero_add, List.set_cons_zero, List.set_cons_succ, List.drop_nil, List.take_nil, Option.map_some, Option.map_none, Option.getD_some, Option.getD_none, Option.bind_some, List.cons_append, List.nil_append, List.append_nil, List.map_cons, List.map_nil, List.range_zero, List.take_zero, List.flatten_nil, List.filter_nil, List.length_nil, List.length_cons, List.drop_zero, List.not_mem_nil, List.mem_cons, Bool.true_eq_false, Bool.false_eq_true, Nat.reduceEqDiff, Nat.reduceAdd, List.getElem?_toArray, List.toList_toArray, List.getElem?_cons_zero, List.getElem?_cons_succ, decide_eq_true_eq, beq_self_eq_true, beq_true, beq_false, decide_true, decide_false, Bool.not_true, Bool.not_false, true_and, and_true, or_false, false_or, Bool.and_eq_true, reduceCtorEq, not_false_eq_true, cat_u, lit_strL, List.append_assoc, h0, h3, h4, ho, U3, U9, U37, T9, T3, T37, len_txt, pc_t, bin_rem2, d1, d2, hw1, hw3, ia_txf l k c2, pc_tx l k c2, rv32, Tryd.f32]
        <;> (and_intros <;> first | ((try simp only [List.length_append, List.length_cons, List.length_nil, SLIM]); omega) | rfl)
      · have e1 : l.drop k = [] := List.drop_of_length_le (by omega)
        rw [e1] at he hb
        simp only [lens_nil] at hb
        simp only [caseF] at he
        subst he
        have d2 : decide ((l.length : Int).tmod 2 = 1) = false := decide_eq_false (by rw [Int.tmod_eq_emod_of_nonneg (by omega)]; omega)
        simp -implicitDefEqProofs (maxSteps := 1000000) only [↓zD, zU, Nat.zero_mul, Nat.reduceMul, List.length_map, Tk.nm.injEq, Tk.cell.injEq, false_and, and_false, Nat.le_add_right, Nat.le_refl, ↓reduceIte, Bool.or_false, Bool.false_or, Bool.and_true, Bool.true_and, Bool.false_and, Bool.true_or, Bool.or_true, Option.isNone_none, Option.isNone_some, List.any_cons, List.any_nil, Bool.and_false, Nat.reduceBEq, Nat.reduceLeDiff, Int.reduceLT, Int.reduceEq, Int.reduceLE, Int.reduceAdd, Int.reduceToNat, Int.reduceNeg, Int.cast_ofNat_Int, Nat.reduceLT, List.drop_succ_cons, List.take_succ_cons, List.singleton_append, Nat.zero_add, List.set_cons_zero, List.set_cons_succ, List.drop_nil, List.take_nil, Option.map_some, Option.map_none, Option.getD_some, Option.getD_none, Option.bind_some, List.cons_append, List.nil_append, List.append_nil, List.map_cons, List.map_nil, List.range_zero, List.take_zero, List.flatten_nil, List.filter_nil, List.length_nil, List.length_cons, List.drop_zero, List.not_mem_nil, List.mem_cons, Bool.true_eq_false, Bool.false_eq_true, Nat.reduceEqDiff, Nat.reduceAdd, List.getElem?_toArray, List.toList_toArray, List.getElem?_cons_zero, List.getElem?_cons_succ, decide_eq_true_eq, beq_self_eq_true, beq_true, beq_false, decide_true, decide_false, Bool.not_true, Bool.not_false, true_and, and_true, or_false, false_or, Bool.and_eq_true, reduceCtorEq, not_false_eq_true, cat_u, lit_strL, List.append_assoc, h0, h3, h4, ho, U3, U9, U37, T9, T3, T37, len_txt, pc_t, bin_rem2, d1, d2, hw1, rv32, Tryd.f32]
        <;> (and_intros <;> first | ((try simp only [List.length_append, List.length_cons, List.length_nil, SLIM]); omega) | rfl)
  · exact ⟨[40, 99, 97, 115, 101], 0, by omega, by omega, rfl, by simp -implicitDefEqProofs only [↓zD, zU, Nat.zero_mul, Nat.reduceMul, List.length_map, Tk.nm.injEq, Tk.cell.injEq, false_and, and_false, Nat.le_add_right, Nat.le_refl, ↓reduceIte, Bool.or_false, Bool.false_or, Bool.and_true, Bool.true_and, Bool.false_and, Bool.true_or, Bool.or_true, Option.isNone_none, Option.isNone_some, List.any_cons, List.any_nil, Bool.and_false, Nat.reduceBEq, Nat.reduceLeDiff, Int.reduceLT, Int.reduceEq, Int.reduceLE, Int.reduceAdd, Int.reduceToNat, Int.reduceNeg, Int.cast_ofNat_Int, Nat.reduceLT, List.drop_succ_cons, List.take_succ_cons, List.singleton_append, Nat.zero_add, List.set_cons_zero, List.set_cons_succ, List.drop_nil, List.take_nil, Option.map_some, Option.map_none, Option.getD_some, Option.getD_none, Option.bind_some, List.cons_append, List.nil_append, List.append_nil, List.map_cons, List.map_nil, List.range_zero, List.take_zero, List.flatten_nil, List.filter_nil, List.length_nil, List.length_cons, List.drop_zero, List.not_mem_nil, List.mem_cons, Bool.true_eq_false, Bool.false_eq_true, Nat.reduceEqDiff, Nat.reduceAdd, List.getElem?_toArray, List.toList_toArray, List.getElem?_cons_zero, List.getElem?_cons_succ, decide_eq_true_eq, beq_self_eq_true, beq_true, beq_false, decide_true, decide_false, Bool.not_true, Bool.not_false, true_and, and_true, or_false, false_or, Bool.and_eq_true, reduceCtorEq, not_false_eq_true, Z1u], by simp -implicitDefEqProofs only [↓zD, zU, Nat.zero_mul, Nat.reduceMul, List.length_map, Tk.nm.injEq, Tk.cell.injEq, false_and, and_false, Nat.le_add_right, Nat.le_refl, ↓reduceIte, Bool.or_false, Bool.false_or, Bool.and_true, Bool.true_and, Bool.false_and, Bool.true_or, Bool.or_true, Option.isNone_none, Option.isNone_some, List.any_cons, List.any_nil, Bool.and_false, Nat.reduceBEq, Nat.reduceLeDiff, Int.reduceLT, Int.reduceEq, Int.reduceLE, Int.reduceAdd, Int.reduceToNat, Int.reduceNeg, Int.cast_ofNat_Int, Nat.reduceLT, List.drop_succ_cons, List.take_succ_cons, List.singleton_append, Nat.zero_add, List.set_cons_zero, List.set_cons_succ, List.drop_nil, List.take_nil, Option.map_some, Option.map_none, Option.getD_some, Option.getD_none, Option.bind_some, List.cons_append, List.nil_append, List.append_nil, List.map_cons, List.map_nil, List.range_zero, List.take_zero, List.flatten_nil, List.filter_nil, List.length_nil, List.length_cons, List.drop_zero, List.not_mem_nil, List.mem_cons, Bool.true_eq_false, Bool.false_eq_true, Nat.reduceEqDiff, Nat.reduceAdd, List.getElem?_toArray, List.toList_toArray, List.getElem?_cons_zero, List.getElem?_cons_succ, decide_eq_true_eq, beq_self_eq_true, beq_true, beq_false, decide_true, decide_false, Bool.not_true, Bool.not_false, true_and, and_true, or_false, false_or, Bool.and_eq_true, reduceCtorEq, not_false_eq_true, Z1u] <;> rfl, by simp -implicitDefEqProofs only [↓zD, zU, Nat.zero_mul, Nat.reduceMul, List.length_map, Tk.nm.injEq, Tk.cell.injEq, false_and, and_false, Nat.le_add_right, Nat.le_refl, ↓reduceIte, Bool.or_false, Bool.false_or, Bool.and_true, Bool.true_and, Bool.false_and, Bool.true_or, Bool.or_true, Option.isNone_none, Option.isNone_some, List.any_cons, List.any_nil, Bool.and_false, Nat.reduceBEq, Nat.reduceLeDiff, Int.reduceLT, Int.reduceEq, Int.reduceLE, Int.reduceAdd, Int.reduceToNat, Int.reduceNeg, Int.cast_ofNat_Int, Nat.reduceLT, List.drop_succ_cons, List.take_succ_cons, List.singleton_append, Nat.zero_add, List.set_cons_zero, List.set_cons_succ, List.drop_nil, List.take_nil, Option.map_some, Option.map_none, Option.getD_some, Option.getD_none, Option.bind_some, List.cons_append, List.nil_append, List.append_nil, List.map_cons, List.map_nil, List.range_zero, List.take_zero, List.flatten_nil, List.filter_nil, List.length_nil, List.length_cons, List.drop_zero, List.not_mem_nil, List.mem_cons, Bool.true_eq_false, Bool.false_eq_true, Nat.reduceEqDiff, Nat.reduceAdd, List.getElem?_toArray, List.toList_toArray, List.getElem?_cons_zero, List.getElem?_cons_succ, decide_eq_true_eq, beq_self_eq_true, beq_true, beq_false, decide_true, decide_false, Bool.not_true, Bool.not_false, true_and, and_true, or_false, false_or, Bool.and_eq_true, reduceCtorEq, not_false_eq_true, Z1u] <;> rfl, by simp -implicitDefEqProofs only [↓zD, zU, Nat.zero_mul, Nat.reduceMul, List.length_map, Tk.nm.injEq, Tk.cell.injEq, false_and, and_false, Nat.le_add_right, Nat.le_refl, ↓reduceIte, Bool.or_false, Bool.false_or, Bool.and_true, Bool.true_and, Bool.false_and, Bool.true_or, Bool.or_true, Option.isNone_none, Option.isNone_some, List.any_cons, List.any_nil, Bool.and_false, Nat.reduceBEq, Nat.reduceLeDiff, Int.reduceLT, Int.reduceEq, Int.reduceLE, Int.reduceAdd, Int.reduceToNat, Int.reduceNeg, Int.cast_ofNat_Int, Nat.reduceLT, List.drop_succ_cons, List.take_succ_cons, List.singleton_append, Nat.zero_add, List.set_cons_zero, List.set_cons_succ, List.drop_nil, List.take_nil, Option.map_some, Option.map_none, Option.getD_some, Option.getD_none, Option.bind_some, List.cons_append, List.nil_append, List.append_nil, List.map_cons, List.map_nil, List.range_zero, List.take_zero, List.flatten_nil, List.filter_nil, List.length_nil, List.length_cons, List.drop_zero, List.not_mem_nil, List.mem_cons, Bool.true_eq_false, Bool.false_eq_true, Nat.reduceEqDiff, Nat.reduceAdd, List.getElem?_toArray, List.toList_toArray, List.getElem?_cons_zero, List.getElem?_cons_succ, decide_eq_true_eq, beq_self_eq_true, beq_true, beq_false, decide_true, decide_false, Bool.not_true, Bool.not_false, true_and, and_true, or_false, false_or, Bool.and_eq_true, reduceCtorEq, not_false_eq_true, Z1u], hW, by simp only [List.length_cons, List.length_nil, List.drop_zero]; omega⟩
theorem rcases_k (l : List (List UInt8)) (K : An → Prop) (h : Lib.lens l + 13 * l.length + 10 ≤ SLIM) : CallK Tryd.prog pr 32 [.of (.sl (txC l) l.length)] [] K ↔ K ⟨false, [xstr (strL (caseF [40, 99, 97, 115, 101] l))], []⟩ := Gives.k (rcases_call l h) K

def oneL (op : Int) (x : List UInt8) : List UInt8 := if op = 3 then [40, 45, 32] ++ x ++ [41] else if op = 4 then [40, 110, 111, 116, 32] ++ x ++ [41] else if op = 19 then [40] ++ x ++ [32, 105, 115, 32, 110, 117, 108, 108, 41] else if op = 28 then [40] ++ x ++ [32, 105, 110, 32, 113, 117, 101, 114, 121, 41] else [63]
def twoL (op : Int) (x y : List UInt8) : List UInt8 := match lookT signT op with
  | some s => [40] ++ x ++ [32] ++ s ++ [32] ++ y ++ [41]
  | none => [63]
set_option maxRecDepth 100000 in
theorem rone_call (op : Int) (x : List UInt8) (h : x.length ≤ 70368744177664) : G1 33 [.of (ci op), .of (cstr (strL x))] (xstr (strL (oneL op x))) := by
  refine by_body rfl ok33 body33 ar33 rfl ?_
  unfold oneL
  by_cases h1 : op = 3
  · subst h1
    simp -implicitDefEqProofs (maxSteps := 1000000) only [Tryd.f33, ↓zD, zU, Nat.zero_mul, Nat.reduceMul, List.length_map, Tk.nm.injEq, Tk.cell.injEq, false_and, and_false, Nat.le_add_right, Nat.le_refl, ↓reduceIte, Bool.or_false, Bool.false_or, Bool.and_true, Bool.true_and, Bool.false_and, Bool.true_or, Bool.or_true, Option.isNone_none, Option.isNone_some, List.any_cons, List.any_nil, Bool.and_false, Nat.reduceBEq, Nat.reduceLeDiff, Int.reduceLT, Int.reduceEq, Int.reduceLE, Int.reduceAdd, Int.reduceToNat, Int.reduceNeg, Int.cast_ofNat_Int, Nat.reduceLT, List.drop_succ_cons, List.take_succ_cons, List.singleton_append, Nat.zero_add, List.set_cons_zero, List.set_cons_succ, List.drop_nil, List.take_nil, Option.map_some, Option.map_none, Option.getD_some, Option.getD_none, Option.bind_some, List.cons_append, List.nil_append, List.append_nil, List.map_cons, List.map_nil, List.range_zero, List.take_zero, List.flatten_nil, List.filter_nil, List.length_nil, List.length_cons, List.drop_zero, List.not_mem_nil, List.mem_cons, Bool.true_eq_false, Bool.false_eq_true, Nat.reduceEqDiff, Nat.reduceAdd, List.getElem?_toArray, List.toList_toArray, List.getElem?_cons_zero, List.getElem?_cons_succ, decide_eq_true_eq, beq_self_eq_true, beq_true, beq_false, decide_true, decide_false, Bool.not_true, Bool.not_false, true_and, and_true, or_false, false_or, Bool.and_eq_true, reduceCtorEq, not_false_eq_true, cat_u, lit_strL, List.append_assoc, rv33, U3, U9, U37, T9, T3, T37, len_txt, pc_t] <;> (and_intros <;> first | ((try simp only [List.length_append, List.length_cons, List.length_nil, SLIM]); omega) | rfl)
  by_cases h2 : op = 4
  · subst h2
    simp -implicitDefEqProofs (maxSteps := 1000000) only [Tryd.f33, ↓zD, zU, Nat.zero_mul, Nat.reduceMul, List.length_map, Tk.nm.injEq, Tk.cell.injEq, false_and, and_false, Nat.le_add_right, Nat.le_refl, ↓reduceIte, Bool.or_false, Bool.false_or, Bool.and_true, Bool.true_and, Bool.false_and, Bool.true_or, Bool.or_true, Option.isNone_none, Option.isNone_some, List.any_cons, List.any_nil, Bool.and_false, Nat.reduceBEq, Nat.reduceLeDiff, Int.reduceLT, Int.reduceEq, Int.reduceLE, Int.reduceAdd, Int.reduceToNat, Int.reduceNeg, Int.cast_ofNat_Int, Nat.reduceLT, List.drop_succ_cons, List.take_succ_cons, List.singleton_append, Nat.zero_add, List.set_cons_zero, List.set_cons_succ, List.drop_nil, List.take_nil, Option.map_some, Option.map_none, Option.getD_some, Option.getD_none, Option.bind_some, List.cons_append, List.nil_append, List.append_nil, List.map_cons, List.map_nil, List.range_zero, List.take_zero, List.flatten_nil, List.filter_nil, List.length_nil, List.length_cons, List.drop_zero, List.not_mem_nil, List.mem_cons, Bool.true_eq_false, Bool.false_eq_true, Nat.reduceEqDiff, Nat.reduceAdd, List.getElem?_toArray, List.toList_toArray, List.getElem?_cons_zero, List.getElem?_cons_succ, decide_eq_true_eq, beq_self_eq_true, beq_true, beq_false, decide_true, decide_false, Bool.not_true, Bool.not_false, true_and, and_true, or_false, false_or, Bool.and_eq_true, reduceCtorEq, not_false_eq_true, cat_u, lit_strL, List.append_assoc, rv33, U3, U9, U37, T9, T3, T37, len_txt, pc_t] <;> (and_intros <;> first | ((try simp only [List.length_append, List.length_cons, List.length_nil, SLIM]); omega) | rfl)
  by_cases h3 : op = 19
  · subst h3
    simp -implicitDefEqProofs (maxSteps := 1000000) only [Tryd.f33, ↓zD, zU, Nat.zero_mul, Nat.reduceMul, List.length_map, Tk.nm.injEq, Tk.cell.injEq, false_and, and_false, Nat.le_add_right, Nat.le_refl, ↓reduceIte, Bool.or_false, Bool.false_or, Bool.and_true, Bool.true_and, Bool.false_and, Bool.true_or, Bool.or_true, Option.isNone_none, Option.isNone_some, List.any_cons, List.any_nil, Bool.and_false, Nat.reduceBEq, Nat.reduceLeDiff, Int.reduceLT, Int.reduceEq, Int.reduceLE, Int.reduceAdd, Int.reduceToNat, Int.reduceNeg, Int.cast_ofNat_Int, Nat.reduceLT, List.drop_succ_cons, List.take_succ_cons, List.singleton_append, Nat.zero_add, List.set_cons_zero, List.set_cons_succ, List.drop_nil, List.take_nil, Option.map_some, Option.map_none, Option.getD_some, Option.getD_none, Option.bind_some, List.cons_append, List.nil_append, List.append_nil, List.map_cons, List.map_nil, List.range_zero, List.take_zero, List.flatten_nil, List.filter_nil, List.length_nil, List.length_cons, List.drop_zero, List.not_mem_nil, List.mem_cons, Bool.true_eq_false, Bool.false_eq_true, Nat.reduceEqDiff, Nat.reduceAdd, List.getElem?_toArray, List.toList_toArray, List.getElem?_cons_zero, List.getElem?_cons_succ, decide_eq_true_eq, beq_self_eq_true, beq_true, beq_false, decide_true, decide_false, Bool.not_true, Bool.not_false, true_and, and_true, or_false, false_or, Bool.and_eq_true, reduceCtorEq, not_false_eq_true, cat_u, lit_strL, List.append_assoc, rv33, U3, U9, U37, T9, T3, T37, len_txt, pc_t] <;> (and_intros <;> first | ((try simp only [List.length_append, List.length_cons, List.length_nil, SLIM]); omega) | rfl)
  by_cases h4 : op = 28
  · subst h4
    simp -implicitDefEqProofs (maxSteps := 1000000) only [Tryd.f33, ↓zD, zU, Nat.zero_mul, Nat.reduceMul, List.length_map, Tk.nm.injEq, Tk.cell.injEq, false_and, and_false, Nat.le_add_right, Nat.le_refl, ↓reduceIte, Bool.or_false, Bool.false_or, Bool.and_true, Bool.true_and, Bool.false_and, Bool.true_or, Bool.or_true, Option.isNone_none, Option.isNone_some, List.any_cons, List.any_nil, Bool.and_false, Nat.reduceBEq, Nat.reduceLeDiff, Int.reduceLT, Int.reduceEq, Int.reduceLE, Int.reduceAdd, Int.reduceToNat, Int.reduceNeg, Int.cast_ofNat_Int, Nat.reduceLT, List.drop_succ_cons, List.take_succ_cons, List.singleton_append, Nat.zero_add, List.set_cons_zero, List.set_cons_succ, List.drop_nil, List.take_nil, Option.map_some, Option.map_none, Option.getD_some, Option.getD_none, Option.bind_some, List.cons_append, List.nil_append, List.append_nil, List.map_cons, List.map_nil, List.range_zero, List.take_zero, List.flatten_nil, List.filter_nil, List.length_nil, List.length_cons, List.drop_zero, List.not_mem_nil, List.mem_cons, Bool.true_eq_false, Bool.false_eq_true, Nat.reduceEqDiff, Nat.reduceAdd, List.getElem?_toArray, List.toList_toArray, List.getElem?_cons_zero, List.getElem?_cons_succ, decide_eq_true_eq, beq_self_eq_true, beq_true, beq_false, decide_true, decide_false, Bool.not_true, Bool.not_false, true_and, and_true, or_false, false_or, Bool.and_eq_true, reduceCtorEq, not_false_eq_true, cat_u, lit_strL, List.append_assoc, rv33, U3, U9, U37, T9, T3, T37, len_txt, pc_t] <;> (and_intros <;> first | ((try simp only [List.length_append, List.length_cons, List.length_nil, SLIM]); omega) | rfl)
  rw [if_neg h1, if_neg h2, if_neg h3, if_neg h4]
  simp -implicitDefEqProofs (maxSteps := 1000000) only [Tryd.f33, ↓zD, zU, Nat.zero_mul, Nat.reduceMul, List.length_map, Tk.nm.injEq, Tk.cell.injEq, false_and, and_false, Nat.le_add_right, Nat.le_refl, ↓reduceIte, Bool.or_false, Bool.false_or, Bool.and_true, Bool.true_and, Bool.false_and, Bool.true_or, Bool.or_true, Option.isNone_none, Option.isNone_some, List.any_cons, List.any_nil, Bool.and_false, Nat.reduceBEq, Nat.reduceLeDiff, Int.reduceLT, Int.reduceEq, Int.reduceLE, Int.reduceAdd, Int.reduceToNat, Int.reduceNeg, Int.cast_ofNat_Int, Nat.reduceLT, List.drop_succ_cons, List.take_succ_cons, List.singleton_append, Nat.zero_add, List.set_cons_zero, List.set_cons_succ, List.drop_nil, List.take_nil, Option.map_some, Option.map_none, Option.getD_some, Option.getD_none, Option.bind_some, List.cons_append, List.nil_append, List.append_nil, List.map_cons, List.map_nil, List.range_zero, List.take_zero, List.flatten_nil, List.filter_nil, List.length_nil, List.length_cons, List.drop_zero, List.not_mem_nil, List.mem_cons, Bool.true_eq_false, Bool.false_eq_true, Nat.reduceEqDiff, Nat.reduceAdd, List.getElem?_toArray, List.toList_toArray, List.getElem?_cons_zero, List.getElem?_cons_succ, decide_eq_true_eq, beq_self_eq_true, beq_true, beq_false, decide_true, decide_false, Bool.not_true, Bool.not_false, true_and, and_true, or_false, false_or, Bool.and_eq_true, reduceCtorEq, not_false_eq_true, cat_u, lit_strL, List.append_assoc, rv33, U3, U9, U37, T9, T3, T37, len_txt, pc_t, h1, h2, h3, h4]
theorem rone_k (op : Int) (x : List UInt8) (K : An → Prop) (h : x.length ≤ 70368744177664) : CallK Tryd.prog pr 33 [.of (ci op), .of (cstr (strL x))] [] K ↔ K ⟨false, [xstr (strL (oneL op x))], []⟩ := Gives.k (rone_call op x h) K
end Go.Proofs.YtfndkemgjhajnaaDoor

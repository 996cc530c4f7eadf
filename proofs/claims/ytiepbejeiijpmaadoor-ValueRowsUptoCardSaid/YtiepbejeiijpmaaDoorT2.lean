/-
  Values and rows as the evaluator's data. Conditions: none.
-/
import Derived.Test.YtiepbejeiijpmaaDoorT1
namespace Go.Proofs.YtiepbejeiijpmaaDoor
open Go Go.Pe Go.Tab

def valX (v : V) : C := .agg (valC v)

theorem wt_nil : wt [] = 0 := rfl
theorem wt_cons (v : V) (r : List V) : wt (v :: r) = v.s.size + 3 + wt r := by simp [wt]
theorem len_wt : ∀ r : List V, 3 * r.length ≤ wt r
  | [] => by simp [wt]
  | v :: r => by have := len_wt r; rw [wt_cons]; simp only [List.length_cons]; omega
theorem ROk.len {r : List V} (h : ROk r) : r.length ≤ 1048576 := by have := len_wt r; have := h.wt; omega

theorem valsC_length : ∀ r : List V, (valsC r).length = r.length * 3
  | [] => rfl
  | v :: r => by
    have := valsC_length r
    unfold valsC at this ⊢
    simp only [List.map_cons, List.flatten_cons, List.length_append, this, List.length_cons]
    show 3 + _ = _
    omega
theorem valsC_nil : valsC [] = [] := rfl
theorem valsC_append (a b : List V) : valsC (a ++ b) = valsC a ++ valsC b := by simp [valsC]
theorem valsC_one (v : V) : valsC [v] = valC v := by simp [valsC]
theorem valsC_cons (v : V) (r : List V) : valsC (v :: r) = valC v ++ valsC r := by simp [valsC]
theorem valsC_drop : ∀ (r : List V) (k : Nat), (valsC r).drop (k * 3) = valsC (r.drop k)
  | r, 0 => by simp
  | [], k + 1 => by simp [valsC]
  | v :: r, k + 1 => by
    rw [List.drop_succ_cons, ← valsC_drop r k, valsC_cons]
    have : (k + 1) * 3 = (valC v).length + k * 3 := by show _ = 3 + _; omega
    rw [this, ← List.drop_drop, List.drop_left]
theorem drop_getD {α : Type} {l : List α} {k : Nat} (h : k < l.length) : l.drop k = l[k] :: l.drop (k + 1) := List.drop_eq_getElem_cons h

/-! rows -/
section
variable (l : List (List V)) (k : Nat) (tk : Tk) (e z : Nat)
theorem len_rows : lenX (some (.slice 28)) (.of (rowsC l)) = out (xint l.length) := rfl
theorem ia_rows (h : k < l.length) : indexAddrX (TT.of Tryd.prog) 22 (.of (rowsC l)) (xint k) = out (.of (.ref ((l.map rowC).drop k))) := by
  rw [indexAddr_sl E22 (l.map rowC) l.length k _ rfl]
  rw [if_pos ⟨by omega, by omega, by simp, by decide⟩]
  simp
theorem ia_rows_own (h : k < l.length) : indexAddrX (TT.of Tryd.prog) 22 (.own tk e z (l.map rowC) l.length) (xint k) = out (.of (.ref ((l.map rowC).drop k))) := by
  rw [indexAddr_sl E22 (l.map rowC) l.length k _ rfl]
  rw [if_pos ⟨by omega, by omega, by simp, by decide⟩]
  simp
theorem ld_rows (h : k < l.length) (objs : List Ob) : loadX (TT.of Tryd.prog) objs 28 (.of (.ref ((l.map rowC).drop k))) = out (.of (rowC l[k])) := by
  rw [Z4i, drop_getD (by simpa using h)]
  simp [pieceC, T28, outO, out]
end

/-! values -/
section
variable (r : List V) (k : Nat) (tk : Tk) (e z : Nat)
theorem len_row : lenX (some (.slice 34)) (.of (rowC r)) = out (xint r.length) := rfl
theorem ia_row (h : k < r.length) : indexAddrX (TT.of Tryd.prog) 28 (.of (rowC r)) (xint k) = out (.of (.ref (valsC (r.drop k)))) := by
  rw [indexAddr_sl E28 (valsC r) r.length k _ rfl]
  rw [if_pos ⟨by omega, by omega, valsC_length r, by decide⟩]
  simp only [Int.toNat_natCast]
  rw [valsC_drop]
theorem ld_row (h : k < r.length) (objs : List Ob) : loadX (TT.of Tryd.prog) objs 34 (.of (.ref (valsC (r.drop k)))) = out (.of (valX r[k])) := by
  rw [Z4i, drop_getD h, valsC_cons]
  simp [pieceC, T34, outO, out, valC, valX]
end
theorem cells_val (v : V) : cellsX (.of (valX v)) = some [xint v.k, xint v.n, xstr v.s] := rfl
theorem wrapS (n : Nat) (h : n < 4611686018427387904) : IntKind.i64.wrap ((n : Int) + 1) = ((n + 1 : Nat) : Int) := by rw [wrap64_ok _ (by omega) (by omega)]; rfl
theorem rd_rowC (r : List V) : X.rd (.of (rowC r)) = some (rowC r) := rfl

/-! rows that are made -/
section
variable (tk t : Tk) (l q : List (List V)) (r : List V)
theorem bs_rows : buildSliceX tk 0 (Pe.elemOf (TT.of Tryd.prog) 22) (some []) = out (.own tk 28 1 [] 0) := bs_0 E22 (by decide) (by decide) tk
theorem bs_rows1 : buildSliceX tk 1 (Pe.elemOf (TT.of Tryd.prog) 22) (some [(0, [.of (rowC r)])]) = out (.own tk 28 1 [rowC r] 1) := bs_1 E22 rfl rfl tk _
theorem bs_rows1o (e z n : Nat) (cs : List C) : buildSliceX tk 1 (Pe.elemOf (TT.of Tryd.prog) 22) (some [(0, [.own t e z cs n])]) = out (.own tk 28 1 [.sl cs n] 1) := bs_1 E22 rfl rfl tk _
theorem bs_row : buildSliceX tk 0 (Pe.elemOf (TT.of Tryd.prog) 28) (some []) = out (.own tk 34 3 [] 0) := bs_0 E28 (by decide) (by decide) tk
theorem ap_row_0 (h : r.length ≤ LIM) : appendX (TT.of Tryd.prog) tk 28 28 (.own t 34 3 [] 0) (.of (rowC r)) = some (.own tk 34 3 (valsC r) r.length, some t) := by
  have := ap_own E28 (by decide) (by decide) tk t [] 0 (.of (rowC r)) (valsC r) r.length rfl (valsC_length r) (by omega)
  simpa using this
theorem ap_row_nil (h : r.length ≤ LIM) : appendX (TT.of Tryd.prog) tk 28 28 .nil (.of (rowC r)) = out (.own tk 34 3 (valsC r) r.length) :=
  ap_nil E28 (by decide) (by decide) tk (.of (rowC r)) (valsC r) r.length rfl (valsC_length r) h
theorem ap_rows_0 (h : q.length ≤ LIM) : appendX (TT.of Tryd.prog) tk 22 22 (.own t 28 1 [] 0) (.of (rowsC q)) = some (.own tk 28 1 (q.map rowC) q.length, some t) := by
  have := ap_own E22 (by decide) (by decide) tk t [] 0 (.of (rowsC q)) (q.map rowC) q.length rfl (by simp) (by omega)
  simpa using this
theorem ap_rows (h : l.length + q.length ≤ LIM) : appendX (TT.of Tryd.prog) tk 22 22 (.own t 28 1 (l.map rowC) l.length) (.of (rowsC q)) = some (.own tk 28 1 ((l ++ q).map rowC) (l ++ q).length, some t) := by
  have := ap_own E22 (by decide) (by decide) tk t (l.map rowC) l.length (.of (rowsC q)) (q.map rowC) q.length rfl (by simp) h
  rw [List.map_append, List.length_append]
  exact this
theorem ap_rows1 (t' : Tk) (h : l.length + 1 ≤ LIM) : appendX (TT.of Tryd.prog) tk 22 22 (.own t 28 1 (l.map rowC) l.length) (.own t' 28 1 [rowC r] 1) = some (.own tk 28 1 ((l ++ [r]).map rowC) (l ++ [r]).length, some t) := by
  have := ap_own E22 (by decide) (by decide) tk t (l.map rowC) l.length (.own t' 28 1 [rowC r] 1) [rowC r] 1 rfl rfl h
  rw [List.map_append, List.length_append]
  exact this
theorem ap_rows1s (t' : Tk) (h : l.length + 1 ≤ LIM) : appendX (TT.of Tryd.prog) tk 22 22 (.own t 28 1 (l.map rowC) l.length) (.own t' 28 1 [.sl (valsC r) r.length] 1) = some (.own tk 28 1 ((l ++ [r]).map rowC) (l ++ [r]).length, some t) := ap_rows1 tk t l r t' h
theorem ap_rows1n (t' : Tk) : appendX (TT.of Tryd.prog) tk 22 22 .nil (.own t' 28 1 [rowC r] 1) = out (.own tk 28 1 ([r].map rowC) [r].length) :=
  ap_nil E22 (by decide) (by decide) tk (.own t' 28 1 [rowC r] 1) [rowC r] 1 rfl rfl (by unfold LIM; omega)
end
end Go.Proofs.YtiepbejeiijpmaaDoor

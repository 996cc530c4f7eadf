/-
  Chapter 30: the program's lines of a plan, by the evaluator. Conditions: none.
-/
import Derived.Test.YtfndkemgjhajnaaDoorPb12
namespace Go.Proofs.YtfndkemgjhajnaaDoor
open Go Go.Pe Go.Tab
set_option linter.unusedSectionVars false

theorem innerC_eq (op : Int) (tb ix : List UInt8) (cols : List Cl) (kids : List Pn) (terms lk rk : List Tm) (r : Nat → C) (est cost : Int) : innerC (.mk op tb ix cols kids terms lk rk r est cost) = if kids = [] then cols else flatC kids := rfl
theorem inner_ok (op : Int) (tb ix : List UInt8) (cols : List Cl) (kids : List Pn) (terms lk rk : List Tm) (r : Nat → C) (est cost : Int) (h : pnWt (.mk op tb ix cols kids terms lk rk r est cost) ≤ 1048576) : ClsOk (innerC (.mk op tb ix cols kids terms lk rk r est cost)) := by
  rw [innerC_eq]
  simp only [pnWt] at h
  split
  · exact clsOk_wt (by omega)
  · exact clsOk_wt (by have := flat_wt kids; unfold flatC; omega)
/-- What a line is, by its parts. -/
theorem lineL_eq (op : Int) (tb ix : List UInt8) (cols : List Cl) (kids : List Pn) (terms lk rk : List Tm) (r : Nat → C) (est cost : Int) (rows : List UInt8) :
    lineL (.mk op tb ix cols kids terms lk rk r est cost) rows = wordL op ++ (if tb = [] then [] else [32] ++ tb) ++ (if op = 2 then [32, 98, 121, 32] ++ ix else []) ++ (if lk ≠ [] ∧ rk ≠ [] then [32, 111, 110, 32] ++ keysL kids lk rk else []) ++
      (if terms = [] then [] else [32] ++ termsL (.mk op tb ix cols kids terms lk rk r est cost) terms) ++ [32, 101, 115, 116, 32] ++ Lib.itoa est ++ [32, 99, 111, 115, 116, 32] ++ Lib.itoa cost ++ [32, 114, 111, 119, 115, 32] ++ rows := by
  unfold lineL
  by_cases h1 : tb = [] <;> by_cases h2 : op = 2 <;> by_cases h3 : lk = [] <;> by_cases h3' : rk = [] <;> by_cases h4 : terms = [] <;> simp [h1, h2, h3, h3', h4]

section
variable (op : Int) (tb ix : List UInt8) (cols : List Cl) (kids : List Pn) (terms lk rk : List Tm) (r : Nat → C) (est cost : Int) (rows : List UInt8)
  (hw : pnWt (.mk op tb ix cols kids terms lk rk r est cost) ≤ 1048576) (hk : PnOk (.mk op tb ix cols kids terms lk rk r est cost)) (hr : rows.length ≤ 1048576)
include hw hk
theorem termsL_len : (termsL (.mk op tb ix cols kids terms lk rk r est cost) terms).length ≤ 8796093022208 := by
  have hc := inner_ok op tb ix cols kids terms lk rk r est cost hw
  simp only [pnWt] at hw
  simp only [PnOk] at hk
  have h := textsF_len _ hc terms hk.2.2.2.1
  have hj := join_le (textsF (innerC (.mk op tb ix cols kids terms lk rk r est cost)) terms) [59, 32]
  have hl := textsF_len' (innerC (.mk op tb ix cols kids terms lk rk r est cost)) terms
  simp only [List.length_cons, List.length_nil] at hj
  unfold termsL
  simp only [List.length_append, List.length_cons, List.length_nil]
  omega
include hr
set_option maxRecDepth 100000 in
set_option maxHeartbeats 2000000 in
theorem rline_call : G1 43 [.of (.agg [ci op, cstr (strL tb), cstr (strL ix), colsC cols, .sl (pnsC kids) kids.length, termsC terms, termsC lk, termsC rk, r 0, r 1, r 2, r 3, r 4, r 5, r 6, r 7, r 8, r 9, r 10, r 11, r 12, ci est, ci cost]), .of (cstr (strL rows))] (xstr (strL (lineL (.mk op tb ix cols kids terms lk rk r est cost) rows))) := by
  have hc := inner_ok op tb ix cols kids terms lk rk r est cost hw
  have hin := innerC_eq op tb ix cols kids terms lk rk r est cost
  have htl : terms ≠ [] → (termsL (.mk op tb ix cols kids terms lk rk r est cost) terms).length ≤ 8796093022208 := fun _ => termsL_len op tb ix cols kids terms lk rk r est cost hw hk
  rw [lineL_eq]
  unfold termsL at htl ⊢
  generalize innerC (.mk op tb ix cols kids terms lk rk r est cost) = cs at hc hin htl ⊢
  simp only [pnWt] at hw
  simp only [PnOk] at hk
  obtain ⟨ho, he, hco, kt, kl, kr, kk⟩ := hk
  have hkl := keysL_len kids lk rk (by omega) (by omega) (by omega) kl kr
  have hrk := fun K => Gives.k (rkeys_call op tb ix cols kids terms lk rk r est cost (by omega) (by omega) (by omega) kl kr) K
  have hrw := fun K => Gives.k (rword_call op ho) K
  have hrt : ∀ K, CallK Tryd.prog pr 30 [.of (termsC terms), .of (colsC cs)] [] K ↔ K ⟨false, [txO (textsF cs terms)], []⟩ := fun K => Gives.k (rtexts_ok cs hc terms (by omega) kt) K
  have hL := LOk.of cs terms hc kt (by omega)
  have hLn := hL.n
  have hLs := hL.s
  have hwl := word_len op
  have hj := join_le (textsF cs terms) [59, 32]
  simp only [List.length_cons, List.length_nil] at hj
  have hrj := fun K => rjoin_k (textsF cs terms) [59, 32] K rfl (by omega)
  have i1 := itoa_short est he.1 he.2
  have i2 := itoa_short cost hco.1 hco.2
  have x1 := fun K => r2Text_k est K (small_of he)
  have x2 := fun K => r2Text_k cost K (small_of hco)
  generalize wordL op = wd at hwl hrw ⊢
  generalize keysL kids lk rk = ky at hkl hrk ⊢
  unfold txO at hrt
  refine by_body rfl ok43 body43 ar43 rfl ?_
  rcases Classical.em (kids = []) with hk0 | hk0
  rw [if_pos hk0] at hin
  have hinn : ∀ K, CallK Tryd.prog pr 58 [.of (.agg [ci op, cstr (strL tb), cstr (strL ix), colsC cols, .sl (pnsC kids) kids.length, termsC terms, termsC lk, termsC rk, r 0, r 1, r 2, r 3, r 4, r 5, r 6, r 7, r 8, r 9, r 10, r 11, r 12, ci est, ci cost])] [] K ↔ K ⟨false, [.of (colsC cs)], []⟩ := by
    clear hrk
    subst hk0
    rw [hin]
    exact fun K => Gives.k (rinner_nil op tb ix cols terms lk rk r est cost) K
  rotate_left
  rw [if_neg hk0] at hin
  have hinn := fun K => Gives.k (rinner_call op tb ix cols kids terms lk rk r est cost hk0 (by omega)) K
  unfold clsO at hinn
  rw [← hin] at hinn
  rotate_left
  all_goals generalize textsF cs terms = L at *
  all_goals obtain ⟨b1, p1⟩ : ∃ b : Bool, (tb = []) = (b = true) := ⟨decide (tb = []), by simp⟩
  all_goals obtain ⟨b2, p2⟩ : ∃ b : Bool, (op = 2) = (b = true) := ⟨decide (op = 2), by simp⟩
  all_goals obtain ⟨b3, p3, q3⟩ : ∃ b : Bool, (lk ≠ []) = (b = true) ∧ ((0 : Int) < (lk.length : Int)) = (b = true) := ⟨decide (lk ≠ []), by simp, by cases lk <;> simp <;> omega⟩
  all_goals obtain ⟨b4, p4, q4⟩ : ∃ b : Bool, (rk ≠ []) = (b = true) ∧ ((0 : Int) < (rk.length : Int)) = (b = true) := ⟨decide (rk ≠ []), by simp, by cases rk <;> simp <;> omega⟩
  all_goals obtain ⟨b5, p5, q5⟩ : ∃ b : Bool, (terms = []) = (b = true) ∧ ((0 : Int) < (terms.length : Int)) = (b = false) := ⟨decide (terms = []), by simp, by cases terms <;> simp <;> omega⟩
  all_goals (try clear hk0)
  all_goals (try clear hin)
  all_goals clear kt kl kr kk hLn
  all_goals have hcf : C.sl (fl clC cs) cs.length = colsC cs := rfl
  all_goals (cases b1 <;> cases b2 <;> cases b3 <;> cases b4 <;> cases b5)
  all_goals (simp -implicitDefEqProofs (maxSteps := 1000000) only [Tryd.f43, ↓zD, zU, Nat.zero_mul, Nat.reduceMul, List.length_map, Tk.nm.injEq, Tk.cell.injEq, false_and, and_false, Nat.le_add_right, Nat.le_refl, ↓reduceIte, Bool.or_false, Bool.false_or, Bool.and_true, Bool.true_and, Bool.false_and, Bool.true_or, Bool.or_true, Option.isNone_none, Option.isNone_some, List.any_cons, List.any_nil, Bool.and_false, Nat.reduceBEq, Nat.reduceLeDiff, Int.reduceLT, Int.reduceEq, Int.reduceLE, Int.reduceAdd, Int.reduceToNat, Int.reduceNeg, Int.cast_ofNat_Int, Nat.reduceLT, List.drop_succ_cons, List.take_succ_cons, List.singleton_append, Nat.zero_add, List.set_cons_zero, List.set_cons_succ, List.drop_nil, List.take_nil, Option.map_some, Option.map_none, Option.getD_some, Option.getD_none, Option.bind_some, List.cons_append, List.nil_append, List.append_nil, List.map_cons, List.map_nil, List.range_zero, List.take_zero, List.flatten_nil, List.filter_nil, List.length_nil, List.length_cons, List.drop_zero, List.not_mem_nil, List.mem_cons, Bool.true_eq_false, Bool.false_eq_true, Nat.reduceEqDiff, Nat.reduceAdd, List.getElem?_toArray, List.toList_toArray, List.getElem?_cons_zero, List.getElem?_cons_succ, decide_eq_true_eq, beq_self_eq_true, beq_true, beq_false, decide_true, decide_false, Bool.not_true, Bool.not_false, true_and, and_true, or_false, false_or, Bool.and_eq_true, reduceCtorEq, not_false_eq_true, cat_u, lit_strL, List.append_assoc, rv43, boxO, zeroX_at, T34, P34, T24, P24, T23, P23, T22, P22, fa34_0, fa34_1, fa34_2, fa34_3, fa34_4, fa34_5, fa34_6, fa34_7, fa34_17, fa34_18, P3, P9, U3, U9, U37, U24, U22, U23, T9, T3, T37, len_txt, pc_t, len_tms, rd_agg23, strL_eq, p1, p2, p3, q3, p4, q4, p5, q5, hrk, hrw, hrt, hrj, hinn, x1, x2, hcf, pr_obj, obj56, call56, obj57, call57, obj58, call58, obj30, call30, obj31, call31, obj42, call42] <;> (and_intros <;> first | ((try simp only [List.length_append, List.length_cons, List.length_nil, SLIM]); omega) | rfl))
end
end Go.Proofs.YtfndkemgjhajnaaDoor
namespace Go.Proofs.YtfndkemgjhajnaaDoor
open Go Go.Pe Go.Tab
set_option linter.unusedSectionVars false

theorem rline_k (p : Pn) (rows : List UInt8) (hw : pnWt p ≤ 1048576) (hk : PnOk p) (hr : rows.length ≤ 1048576) (K : An → Prop) : CallK Tryd.prog pr 43 [.of (.agg (pnC p)), .of (cstr (strL rows))] [] K ↔ K ⟨false, [xstr (strL (lineL p rows))], []⟩ := by
  cases p
  exact Gives.k (rline_call _ _ _ _ _ _ _ _ _ _ _ rows hw hk hr) K
theorem lineL_len (p : Pn) (rows : List UInt8) (hw : pnWt p ≤ 1048576) (hk : PnOk p) (hr : rows.length ≤ 1048576) : (lineL p rows).length ≤ 35184372088832 := by
  obtain ⟨op, tb, ix, cols, kids, terms, lk, rk, r, est, cost⟩ := p
  have h1 := termsL_len op tb ix cols kids terms lk rk r est cost hw hk
  have hwl := word_len op
  rw [lineL_eq]
  simp only [pnWt] at hw
  simp only [PnOk] at hk
  obtain ⟨ho, he, hco, kt, kl, kr, kk⟩ := hk
  have h2 := keysL_len kids lk rk (by omega) (by omega) (by omega) kl kr
  have i1 := itoa_short est he.1 he.2
  have i2 := itoa_short cost hco.1 hco.2
  simp only [List.length_append, List.length_cons, List.length_nil]
  have a1 : (if tb = [] then ([] : List UInt8) else [32] ++ tb).length ≤ 1048577 := by split <;> simp only [List.length_append, List.length_cons, List.length_nil] <;> omega
  have a2 : (if op = 2 then [32, 98, 121, 32] ++ ix else ([] : List UInt8)).length ≤ 1048580 := by split <;> simp only [List.length_append, List.length_cons, List.length_nil] <;> omega
  have a3 : (if lk ≠ [] ∧ rk ≠ [] then [32, 111, 110, 32] ++ keysL kids lk rk else ([] : List UInt8)).length ≤ 17592186044420 := by split <;> simp only [List.length_append, List.length_cons, List.length_nil] <;> omega
  have a4 : (if terms = [] then ([] : List UInt8) else [32] ++ termsL (.mk op tb ix cols kids terms lk rk r est cost) terms).length ≤ 8796093022209 := by split <;> simp only [List.length_append, List.length_cons, List.length_nil] <;> omega
  omega
theorem ia_in (l : List Int) (k : Nat) (h : k < l.length) : indexAddrX (TT.of Tryd.prog) 27 (.of (intsC l)) (xint k) = out (.of (.ref (fl (fun n => [ci n]) (l.drop k)))) := by
  have e : ∀ l : List Int, l.map ci = fl (fun n => [ci n]) l := fun l => by
    induction l with
    | nil => rfl
    | cons x l ih => simp only [fl, List.map_cons, List.flatten_cons, List.cons_append, List.nil_append] at ih ⊢; rw [ih]
  exact ia_fl (f := fun n => [ci n]) (z := 1) (fun _ => rfl) E27 rfl (by decide) l _ (by unfold intsC; rw [e]; rfl) k h
theorem pc_in (l : List Int) (k : Nat) (h : k < l.length) : pieceC (TT.of Tryd.prog) 3 (fl (fun n => [ci n]) (l.drop k)) = some (ci l[k]) := by
  rw [fl_at _ l k h]
  simp only [List.cons_append, Q3]
theorem len_ints (u : Nat) (l : List Int) : lenX (some (.slice u)) (.of (intsC l)) = out (xint l.length) := rfl
theorem ap_ss (tk t t' : Tk) (a b : List (List UInt8)) {n m : Nat} (hb : b.length = m) (h : n + m ≤ LIM) : appendX (TT.of Tryd.prog) tk 37 37 (.own t 9 1 (txC a) n) (.own t' 9 1 (txC b) m) = some (.own tk 9 1 (txC (a ++ b)) (n + m), some t) := by
  have := ap_own E37 (by decide) (by decide) tk t (txC a) n (.own t' 9 1 (txC b) m) (txC b) m rfl (by rw [txC_len, hb]; exact (Nat.mul_one _).symm) h
  have e : txC (a ++ b) = txC a ++ txC b := by simp [txC]
  rw [e]
  exact this
theorem blanks_snoc (n : Nat) : blanks (n + 1) = blanks n ++ [32, 32] := by
  induction n with
  | zero => rfl
  | succ n ih => rw [blanks_succ, ih, ← List.append_assoc, ← blanks_succ, ih]
theorem blanks_len (n : Nat) : (blanks n).length = 2 * n := by
  induction n with
  | zero => rfl
  | succ n ih => rw [blanks_snoc, List.length_append, ih]; simp only [List.length_cons, List.length_nil]; omega
theorem undersF_take (counts : List Int) (deep i : Nat) (l : List Pn) (k : Nat) (h : k < l.length) : undersF counts deep i (l.take (k + 1)) = undersF counts deep i (l.take k) ++ underF counts deep (i + nodesNs (l.take k)) l[k] := by
  rw [List.take_succ_eq_append_getElem h, undersF_snoc]
theorem rowsL_len (counts : List Int) (hc : ∀ n ∈ counts, I64 n) (i : Nat) : (rowsL counts i).length ≤ 20 := by
  unfold rowsL
  split
  · rename_i n hn
    have := hc n (List.mem_of_getElem? hn)
    exact itoa_short n this.1 this.2
  · decide

section
variable (op : Int) (tb ix : List UInt8) (cols : List Cl) (kids : List Pn) (terms lk rk : List Tm) (r : Nat → C) (est cost : Int) (counts : List Int) (deep i : Nat)
  (hw : pnWt (.mk op tb ix cols kids terms lk rk r est cost) ≤ 1048576) (hk : PnOk (.mk op tb ix cols kids terms lk rk r est cost)) (hc : counts.length ≤ 1048576) (hci : ∀ n ∈ counts, I64 n) (hd : deep ≤ 2097152) (hi : i ≤ 2097152)
include hw hk hc hci hd hi
set_option maxRecDepth 100000 in
set_option maxHeartbeats 2000000 in
theorem runder_step (ih : ∀ k (h : k < kids.length), G1 21 [.of (.agg (pnC kids[k])), .of (intsC counts), .of (ci ((i + 1 + nodesNs (kids.take k) : Nat))), .of (cstr (strL (blanks (deep + 1))))] (txO (underF counts (deep + 1) (i + 1 + nodesNs (kids.take k)) kids[k]))) :
    G1 21 [.of (.agg [ci op, cstr (strL tb), cstr (strL ix), colsC cols, .sl (pnsC kids) kids.length, termsC terms, termsC lk, termsC rk, r 0, r 1, r 2, r 3, r 4, r 5, r 6, r 7, r 8, r 9, r 10, r 11, r 12, ci est, ci cost]), .of (intsC counts), .of (ci (i : Nat)), .of (cstr (strL (blanks deep)))] (txO (underF counts deep i (.mk op tb ix cols kids terms lk rk r est cost))) := by
  have hline := rline_k (.mk op tb ix cols kids terms lk rk r est cost) (rowsL counts i) hw hk (by have := rowsL_len counts hci i; omega)
  have hll := lineL_len (.mk op tb ix cols kids terms lk rk r est cost) (rowsL counts i) hw hk (by have := rowsL_len counts hci i; omega)
  have hbl := blanks_len deep
  have hbs := blanks_snoc deep
  have e : underF counts deep i (.mk op tb ix cols kids terms lk rk r est cost) = (blanks deep ++ lineL (.mk op tb ix cols kids terms lk rk r est cost) (rowsL counts i)) :: undersF counts (deep + 1) (i + 1) kids := rfl
  have hln := underF_len counts (.mk op tb ix cols kids terms lk rk r est cost) deep i
  rw [e] at hln ⊢
  simp only [pnC] at hline
  generalize lineL (.mk op tb ix cols kids terms lk rk r est cost) (rowsL counts i) = ln at *
  simp only [pnWt] at hw
  have hkl : kids.length ≤ 1048576 := by have := pnsWt_len kids; omega
  have hnl := nodess_le kids
  have hw0 := wrapS i (by omega)
  refine by_body rfl ok21 body21 ar21 rfl ?_
  rcases Nat.lt_or_ge i counts.length with ci0 | ci0
  have g1 : decide ((i : Int) < (counts.length : Int)) = true := decide_eq_true (by omega)
  have hrl : rowsL counts i = Lib.itoa counts[i] := by unfold rowsL; rw [List.getElem?_eq_getElem ci0]
  have x1 := fun K => r2Text_k counts[i] K (small_of (hci _ (List.getElem_mem ci0)))
  have x2 := ia_in counts i ci0
  have x3 := pc_in counts i ci0
  rw [hrl] at hline
  rotate_left
  have g1 : decide ((i : Int) < (counts.length : Int)) = false := decide_eq_false (by omega)
  have hrl : rowsL counts i = [45] := by unfold rowsL; rw [List.getElem?_eq_none ci0]
  have x1 : 77 ≤ 77 := Nat.le_refl _
  have x2 : 77 ≤ 77 := Nat.le_refl _
  have x3 : 77 ≤ 77 := Nat.le_refl _
  rw [hrl] at hline
  rotate_left
  all_goals simp -implicitDefEqProofs (maxSteps := 1000000) only [Tryd.f21, ↓zD, zU, Nat.zero_mul, Nat.reduceMul, List.length_map, Tk.nm.injEq, Tk.cell.injEq, false_and, and_false, Nat.le_add_right, Nat.le_refl, ↓reduceIte, Bool.or_false, Bool.false_or, Bool.and_true, Bool.true_and, Bool.false_and, Bool.true_or, Bool.or_true, Option.isNone_none, Option.isNone_some, List.any_cons, List.any_nil, Bool.and_false, Nat.reduceBEq, Nat.reduceLeDiff, Int.reduceLT, Int.reduceEq, Int.reduceLE, Int.reduceAdd, Int.reduceToNat, Int.reduceNeg, Int.cast_ofNat_Int, Nat.reduceLT, List.drop_succ_cons, List.take_succ_cons, List.singleton_append, Nat.zero_add, List.set_cons_zero, List.set_cons_succ, List.drop_nil, List.take_nil, Option.map_some, Option.map_none, Option.getD_some, Option.getD_none, Option.bind_some, List.cons_append, List.nil_append, List.append_nil, List.map_cons, List.map_nil, List.range_zero, List.take_zero, List.flatten_nil, List.filter_nil, List.length_nil, List.length_cons, List.drop_zero, List.not_mem_nil, List.mem_cons, Bool.true_eq_false, Bool.false_eq_true, Nat.reduceEqDiff, Nat.reduceAdd, List.getElem?_toArray, List.toList_toArray, List.getElem?_cons_zero, List.getElem?_cons_succ, decide_eq_true_eq, beq_self_eq_true, beq_true, beq_false, decide_true, decide_false, Bool.not_true, Bool.not_false, true_and, and_true, or_false, false_or, Bool.and_eq_true, reduceCtorEq, not_false_eq_true, cat_u, lit_strL, List.append_assoc, rv21, boxO, zeroX_at, T34, P34, T24, P24, T23, P23, T22, P22, fa34_0, fa34_1, fa34_2, fa34_3, fa34_4, fa34_5, fa34_6, fa34_7, fa34_17, fa34_18, P3, P9, U3, U9, U37, U24, U22, U23, T9, T3, T37, len_txt, pc_t, U27, len_ints, rd_agg23, g1, hw0, x1, x2, x3, hline, pr_obj, obj43, call43, obj42, call42, bs_s1]
  all_goals refine ⟨by ((try simp only [List.length_append, List.length_cons, List.length_nil, SLIM]); omega), ?_⟩
  all_goals refine WC_inv _ _ (fun m s => ∃ k : Nat, k ≤ kids.length ∧ m = kids.length - k ∧ s.fr 1 = .of (intsC counts) ∧ s.fr 3 = .of (cstr (strL (blanks deep))) ∧ s.fr 4 = .ptr 0 0 ∧ s.fr 12 = xint k ∧ s.fr 11 = xint ((i + 1 + nodesNs (kids.take k) : Nat)) ∧ s.objs = [.var 34 [xint op, xstr (strL tb), xstr (strL ix), .of (colsC cols), .of (.sl (pnsC kids) kids.length), .of (termsC terms), .of (termsC lk), .of (termsC rk), .of (r 0), .of (r 1), .of (r 2), .of (r 3), .of (r 4), .of (r 5), .of (r 6), .of (r 7), .of (r 8), .of (r 9), .of (r 10), .of (r 11), .of (r 12), xint est, xint cost]] ∧
    ∃ t, Old s.clk t ∧ s.fr 10 = .own t 9 1 (txC ((blanks deep ++ ln) :: undersF counts (deep + 1) (i + 1) (kids.take k))) (1 + nodesNs (kids.take k))) ?_ kids.length _ ?_
  rotate_left
  · refine ⟨0, by omega, by omega, ?_, ?_, ?_, ?_, ?_, ?_, .nm 5 5 0, ?_, ?_⟩ <;> (simp -implicitDefEqProofs (maxSteps := 1000000) only [↓zD, zU, Nat.zero_mul, Nat.reduceMul, List.length_map, Tk.nm.injEq, Tk.cell.injEq, false_and, and_false, Nat.le_add_right, Nat.le_refl, ↓reduceIte, Bool.or_false, Bool.false_or, Bool.and_true, Bool.true_and, Bool.false_and, Bool.true_or, Bool.or_true, Option.isNone_none, Option.isNone_some, List.any_cons, List.any_nil, Bool.and_false, Nat.reduceBEq, Nat.reduceLeDiff, Int.reduceLT, Int.reduceEq, Int.reduceLE, Int.reduceAdd, Int.reduceToNat, Int.reduceNeg, Int.cast_ofNat_Int, Nat.reduceLT, List.drop_succ_cons, List.take_succ_cons, List.singleton_append, Nat.zero_add, List.set_cons_zero, List.set_cons_succ, List.drop_nil, List.take_nil, Option.map_some, Option.map_none, Option.getD_some, Option.getD_none, Option.bind_some, List.cons_append, List.nil_append, List.append_nil, List.map_cons, List.map_nil, List.range_zero, List.take_zero, List.flatten_nil, List.filter_nil, List.length_nil, List.length_cons, List.drop_zero, List.not_mem_nil, List.mem_cons, Bool.true_eq_false, Bool.false_eq_true, Nat.reduceEqDiff, Nat.reduceAdd, List.getElem?_toArray, List.toList_toArray, List.getElem?_cons_zero, List.getElem?_cons_succ, decide_eq_true_eq, beq_self_eq_true, beq_true, beq_false, decide_true, decide_false, Bool.not_true, Bool.not_false, true_and, and_true, or_false, false_or, Bool.and_eq_true, reduceCtorEq, not_false_eq_true, cat_u, lit_strL, List.append_assoc, boxO, zeroX_at, T34, P34, T24, P24, T23, P23, T22, P22, fa34_0, fa34_1, fa34_2, fa34_3, fa34_4, fa34_5, fa34_6, fa34_7, fa34_17, fa34_18, P3, P9, U3, U9, U37, U24, U22, U23, T9, T3, T37, len_txt, pc_t] <;> rfl)
  rotate_left
  · refine ⟨0, by omega, by omega, ?_, ?_, ?_, ?_, ?_, ?_, .nm 4 5 0, ?_, ?_⟩ <;> (simp -implicitDefEqProofs (maxSteps := 1000000) only [↓zD, zU, Nat.zero_mul, Nat.reduceMul, List.length_map, Tk.nm.injEq, Tk.cell.injEq, false_and, and_false, Nat.le_add_right, Nat.le_refl, ↓reduceIte, Bool.or_false, Bool.false_or, Bool.and_true, Bool.true_and, Bool.false_and, Bool.true_or, Bool.or_true, Option.isNone_none, Option.isNone_some, List.any_cons, List.any_nil, Bool.and_false, Nat.reduceBEq, Nat.reduceLeDiff, Int.reduceLT, Int.reduceEq, Int.reduceLE, Int.reduceAdd, Int.reduceToNat, Int.reduceNeg, Int.cast_ofNat_Int, Nat.reduceLT, List.drop_succ_cons, List.take_succ_cons, List.singleton_append, Nat.zero_add, List.set_cons_zero, List.set_cons_succ, List.drop_nil, List.take_nil, Option.map_some, Option.map_none, Option.getD_some, Option.getD_none, Option.bind_some, List.cons_append, List.nil_append, List.append_nil, List.map_cons, List.map_nil, List.range_zero, List.take_zero, List.flatten_nil, List.filter_nil, List.length_nil, List.length_cons, List.drop_zero, List.not_mem_nil, List.mem_cons, Bool.true_eq_false, Bool.false_eq_true, Nat.reduceEqDiff, Nat.reduceAdd, List.getElem?_toArray, List.toList_toArray, List.getElem?_cons_zero, List.getElem?_cons_succ, decide_eq_true_eq, beq_self_eq_true, beq_true, beq_false, decide_true, decide_false, Bool.not_true, Bool.not_false, true_and, and_true, or_false, false_or, Bool.and_eq_true, reduceCtorEq, not_false_eq_true, cat_u, lit_strL, List.append_assoc, boxO, zeroX_at, T34, P34, T24, P24, T23, P23, T22, P22, fa34_0, fa34_1, fa34_2, fa34_3, fa34_4, fa34_5, fa34_6, fa34_7, fa34_17, fa34_18, P3, P9, U3, U9, U37, U24, U22, U23, T9, T3, T37, len_txt, pc_t] <;> rfl)
  all_goals clear g1 x1 x2 x3 hrl hline
  all_goals rintro m s ⟨k, hk1, rfl, h1, h3, h4, h12, h11, ho, t, hold, h10⟩
  all_goals have hw1 := wrapS k (by omega)
  all_goals rcases Nat.lt_or_ge k kids.length with c1 | c1
  all_goals first
  | have c0 : kids.length ≤ k := c1
    have d1 : decide ((k : Int) < (kids.length : Int)) = false := decide_eq_false (by omega)
    rw [List.take_of_length_le (by omega)] at h10
    have hle : ((blanks deep ++ ln) :: undersF counts (deep + 1) (i + 1) kids).length = 1 + nodesNs kids := by rw [List.length_cons, undersF_len]; omega
    simp -implicitDefEqProofs (maxSteps := 1000000) only [↓zD, zU, Nat.zero_mul, Nat.reduceMul, List.length_map, Tk.nm.injEq, Tk.cell.injEq, false_and, and_false, Nat.le_add_right, Nat.le_refl, ↓reduceIte, Bool.or_false, Bool.false_or, Bool.and_true, Bool.true_and, Bool.false_and, Bool.true_or, Bool.or_true, Option.isNone_none, Option.isNone_some, List.any_cons, List.any_nil, Bool.and_false, Nat.reduceBEq, Nat.reduceLeDiff, Int.reduceLT, Int.reduceEq, Int.reduceLE, Int.reduceAdd, Int.reduceToNat, Int.reduceNeg, Int.cast_ofNat_Int, Nat.reduceLT, List.drop_succ_cons, List.take_succ_cons, List.singleton_append, Nat.zero_add, List.set_cons_zero, List.set_cons_succ, List.drop_nil, List.take_nil, Option.map_some, Option.map_none, Option.getD_some, Option.getD_none, Option.bind_some, List.cons_append, List.nil_append, List.append_nil, List.map_cons, List.map_nil, List.range_zero, List.take_zero, List.flatten_nil, List.filter_nil, List.length_nil, List.length_cons, List.drop_zero, List.not_mem_nil, List.mem_cons, Bool.true_eq_false, Bool.false_eq_true, Nat.reduceEqDiff, Nat.reduceAdd, List.getElem?_toArray, List.toList_toArray, List.getElem?_cons_zero, List.getElem?_cons_succ, decide_eq_true_eq, beq_self_eq_true, beq_true, beq_false, decide_true, decide_false, Bool.not_true, Bool.not_false, true_and, and_true, or_false, false_or, Bool.and_eq_true, reduceCtorEq, not_false_eq_true, cat_u, lit_strL, List.append_assoc, h1, h3, h4, h10, h11, h12, ho, boxO, zeroX_at, T34, P34, T24, P24, T23, P23, T22, P22, fa34_0, fa34_1, fa34_2, fa34_3, fa34_4, fa34_5, fa34_6, fa34_7, fa34_17, fa34_18, P3, P9, U3, U9, U37, U24, U22, U23, T9, T3, T37, len_txt, pc_t, d1, rv21, Tryd.f21]
    unfold txO
    rw [hle]
  | have c0 : k < kids.length := c1
    have d1 : decide ((k : Int) < (kids.length : Int)) = true := decide_eq_true (by omega)
    have htn := nodesNs_take kids k c1
    have hle := nodesNs_take_le kids (k + 1)
    have hpw := pnWt_mem (List.getElem_mem c1)
    have hcall := fun K => Gives.k (ih k c1) K
    have hnod := fun K => Gives.k (rnodes_call (pnsWt kids) kids[k] hpw (by omega)) K
    have htk := undersF_take counts (deep + 1) (i + 1) kids k c1
    have hU := underF_len counts kids[k] (deep + 1) (i + 1 + nodesNs (kids.take k))
    have hw2 := wrapN (i + 1 + nodesNs (kids.take k)) (nodesN kids[k]) (by omega)
    unfold txO at hcall
    rw [hbs] at hcall
    rw [hU] at hcall
    generalize underF counts (deep + 1) (i + 1 + nodesNs (kids.take k)) kids[k] = U at *
    have hap := fun tk t t' a => ap_ss tk t t' a U (n := 1 + nodesNs (kids.take k)) hU (by unfold LIM; omega)
    simp -implicitDefEqProofs (maxSteps := 1000000) only [↓zD, zU, Nat.zero_mul, Nat.reduceMul, List.length_map, Tk.nm.injEq, Tk.cell.injEq, false_and, and_false, Nat.le_add_right, Nat.le_refl, ↓reduceIte, Bool.or_false, Bool.false_or, Bool.and_true, Bool.true_and, Bool.false_and, Bool.true_or, Bool.or_true, Option.isNone_none, Option.isNone_some, List.any_cons, List.any_nil, Bool.and_false, Nat.reduceBEq, Nat.reduceLeDiff, Int.reduceLT, Int.reduceEq, Int.reduceLE, Int.reduceAdd, Int.reduceToNat, Int.reduceNeg, Int.cast_ofNat_Int, Nat.reduceLT, List.drop_succ_cons, List.take_succ_cons, List.singleton_append, Nat.zero_add, List.set_cons_zero, List.set_cons_succ, List.drop_nil, List.take_nil, Option.map_some, Option.map_none, Option.getD_some, Option.getD_none, Option.bind_some, List.cons_append, List.nil_append, List.append_nil, List.map_cons, List.map_nil, List.range_zero, List.take_zero, List.flatten_nil, List.filter_nil, List.length_nil, List.length_cons, List.drop_zero, List.not_mem_nil, List.mem_cons, Bool.true_eq_false, Bool.false_eq_true, Nat.reduceEqDiff, Nat.reduceAdd, List.getElem?_toArray, List.toList_toArray, List.getElem?_cons_zero, List.getElem?_cons_succ, decide_eq_true_eq, beq_self_eq_true, beq_true, beq_false, decide_true, decide_false, Bool.not_true, Bool.not_false, true_and, and_true, or_false, false_or, Bool.and_eq_true, reduceCtorEq, not_false_eq_true, cat_u, lit_strL, List.append_assoc, h1, h3, h4, h10, h11, h12, ho, boxO, zeroX_at, T34, P34, T24, P24, T23, P23, T22, P22, fa34_0, fa34_1, fa34_2, fa34_3, fa34_4, fa34_5, fa34_6, fa34_7, fa34_17, fa34_18, P3, P9, U3, U9, U37, U24, U22, U23, T9, T3, T37, len_txt, pc_t, d1, hw1, hw2, ia_pn kids k c1, pc_pn kids k c1, hcall, hnod, hap, pr_obj, obj21, call21, obj12, call12, old_add hold, old_new hold, hold]
    refine ⟨by ((try simp only [List.length_append, List.length_cons, List.length_nil, SLIM]); omega), _, ?_, k + 1, by omega, rfl, rfl, by rw [htn]; congr 3; omega, .nm (s.clk + 1) 11 0, ?_, by rw [htk, htn]; congr 1; omega⟩
    · omega
    · rw [Z68]; omega
end
theorem runder_call (counts : List Int) (hc : counts.length ≤ 1048576) (hci : ∀ n ∈ counts, I64 n) : ∀ (n : Nat) (p : Pn) (deep i : Nat), pnWt p ≤ n → n ≤ 1048576 → PnOk p → deep + n ≤ 2097152 → i + nodesN p ≤ 2097152 →
    G1 21 [.of (.agg (pnC p)), .of (intsC counts), .of (ci (i : Nat)), .of (cstr (strL (blanks deep)))] (txO (underF counts deep i p))
  | 0, p, deep, i, h, _, _, _, _ => absurd (pnWt_pos p) (by omega)
  | n + 1, .mk op tb ix cols kids terms lk rk r est cost, deep, i, h, hn, hk, hd, hi => by
    refine runder_step op tb ix cols kids terms lk rk r est cost counts deep i (by omega) hk hc hci (by omega) (by omega) fun k hk' => ?_
    simp only [pnWt] at h
    simp only [PnOk] at hk
    simp only [nodesN] at hi
    have h1 := nodesNs_take kids k hk'
    have h2 := nodesNs_take_le kids (k + 1)
    have h3 := pnWt_mem (List.getElem_mem hk')
    exact runder_call counts hc hci n kids[k] (deep + 1) (i + 1 + nodesNs (kids.take k)) (by omega) (by omega) ((PnsOk_iff kids).1 hk.2.2.2.2.2.2 _ (List.getElem_mem hk')) (by omega) (by omega)
end Go.Proofs.YtfndkemgjhajnaaDoor
namespace Go.Proofs.YtfndkemgjhajnaaDoor
open Go Go.Pe Go.Tab
set_option linter.unusedSectionVars false

def heads : Nat → Code → Code
  | 0, _ => .skip
  | n + 1, .seq a b => .seq a (heads n b)
  | _ + 1, c => c
def tails : Nat → Code → Code
  | 0, c => c
  | n + 1, .seq _ b => tails n b
  | _ + 1, _ => .skip
def longB : Nat → Code → Bool
  | 0, _ => true
  | n + 1, .seq _ b => longB n b
  | _ + 1, _ => false
theorem WC_mono {P : Program} {pr : Pr} {c : Code} {s : S} {R Q : Ex → S → Prop} (h : WC P pr c s R) (hq : ∀ e s', R e s' → Q e s') : WC P pr c s Q :=
  let ⟨n, e, s', h1, h2⟩ := h
  ⟨n, e, s', h1, hq e s' h2⟩
def okR (R : S → Prop) (e : Ex) (s : S) : Prop := e = .normal ∧ R s
theorem okR_at (R : S → Prop) (s : S) : okR R .normal s ↔ R s := ⟨fun h => h.2, fun h => ⟨rfl, h⟩⟩
theorem WC_cut {P : Program} {pr : Pr} {Q : Ex → S → Prop} : ∀ (n : Nat) (c : Code) (s : S) (R : S → Prop), longB n c = true → WC P pr (heads n c) s (okR R) → (∀ s', R s' → WC P pr (tails n c) s' Q) → WC P pr c s Q
  | 0, c, s, R, _, h, hq => by
    have h1 : okR R .normal s := (Z10 s (okR R)).1 h
    exact hq s h1.2
  | n + 1, .seq a b, s, R, hl, h, hq => by
    rw [Zz]
    have h1 := (Zz a (heads n b) s (okR R)).1 h
    refine WC_mono h1 fun e s' he => ?_
    cases e with
    | normal => exact WC_cut n b s' R hl he hq
    | exit i => exact absurd he.1 (by simp)
    | ret => exact absurd he.1 (by simp)
    | pan x => exact absurd he.1 (by simp)
  | n + 1, .region _ _ _, _, _, hl, _, _ => by simp [longB] at hl
  | n + 1, .skip, _, _, hl, _, _ => by simp [longB] at hl
  | n + 1, .cond _ _ _, _, _, hl, _, _ => by simp [longB] at hl
  | n + 1, .block _ _, _, _, hl, _, _ => by simp [longB] at hl
  | n + 1, .loop _, _, _, hl, _, _ => by simp [longB] at hl
  | n + 1, .exit _, _, _, hl, _, _ => by simp [longB] at hl
  | n + 1, .ret, _, _, hl, _, _ => by simp [longB] at hl
  | n + 1, .rangeFunc _ _ _ _, _, _, hl, _, _ => by simp [longB] at hl

theorem ap_s2 (tk t t' : Tk) (l : List (List UInt8)) (a b : List UInt8) {n : Nat} (h : n + 2 ≤ LIM) : appendX (TT.of Tryd.prog) tk 37 37 (.own t 9 1 (txC l) n) (.own t' 9 1 [cstr (strL a), cstr (strL b)] 2) = some (.own tk 9 1 (txC (l ++ [a, b])) (n + 2), some t) := by
  have := ap_own E37 (by decide) (by decide) tk t (txC l) n (.own t' 9 1 [cstr (strL a), cstr (strL b)] 2) [cstr (strL a), cstr (strL b)] 2 rfl rfl h
  have e : txC (l ++ [a, b]) = txC l ++ [cstr (strL a), cstr (strL b)] := by simp [txC]
  rw [e]
  exact this
theorem ap_s6 (tk t t' : Tk) (l : List (List UInt8)) (a b c d e f : List UInt8) {n : Nat} (h : n + 6 ≤ LIM) : appendX (TT.of Tryd.prog) tk 37 37 (.own t 9 1 (txC l) n) (.own t' 9 1 [cstr (strL a), cstr (strL b), cstr (strL c), cstr (strL d), cstr (strL e), cstr (strL f)] 6) = some (.own tk 9 1 (txC (l ++ [a, b, c, d, e, f])) (n + 6), some t) := by
  have := ap_own E37 (by decide) (by decide) tk t (txC l) n (.own t' 9 1 [cstr (strL a), cstr (strL b), cstr (strL c), cstr (strL d), cstr (strL e), cstr (strL f)] 6) [cstr (strL a), cstr (strL b), cstr (strL c), cstr (strL d), cstr (strL e), cstr (strL f)] 6 rfl rfl h
  have e : txC (l ++ [a, b, c, d, e, f]) = txC l ++ [cstr (strL a), cstr (strL b), cstr (strL c), cstr (strL d), cstr (strL e), cstr (strL f)] := by simp [txC]
  rw [e]
  exact this
section
variable (op : Int) (tb ix : List UInt8) (cols : List Cl) (kids : List Pn) (terms lk rk : List Tm) (r : Nat → C) (est cost : Int) (counts : List Int) (deep : Nat) (y0 : X) (L : List (List UInt8))
/-- Where the pieces of a line are. -/
def NSt (s : S) : Prop := s.fr 0 = .ptr 0 0 ∧ s.fr 2 = .of (ci (deep : Nat)) ∧ s.fr 4 = .ptr 1 0 ∧ s.objs = [.var 58 [.of (intsC counts), y0], .var 34 [xint op, xstr (strL tb), xstr (strL ix), .of (colsC cols), .of (.sl (pnsC kids) kids.length), .of (termsC terms), .of (termsC lk), .of (termsC rk), .of (r 0), .of (r 1), .of (r 2), .of (r 3), .of (r 4), .of (r 5), .of (r 6), .of (r 7), .of (r 8), .of (r 9), .of (r 10), .of (r 11), .of (r 12), xint est, xint cost], .map (mapIS wordT)] ∧ ∃ c k, c < s.clk ∧ s.fr 8 = .own (.nm c k 0) 9 1 (txC L) L.length
variable (hy0 : y0 = .nil ∨ ∃ cs n, y0 = .own (.cell 0 1) 9 1 cs n)
include hy0
set_option maxRecDepth 100000 in
theorem node1 : WC Tryd.prog pr (heads 4 (Tryd.f20.body.getD Code.skip)) (initS [.ptr 0 0, (.agg [xint op, xstr (strL tb), xstr (strL ix), .of (colsC cols), .of (.sl (pnsC kids) kids.length), .of (termsC terms), .of (termsC lk), .of (termsC rk), .of (r 0), .of (r 1), .of (r 2), .of (r 3), .of (r 4), .of (r 5), .of (r 6), .of (r 7), .of (r 8), .of (r 9), .of (r 10), .of (r 11), .of (r 12), xint est, xint cost]), .of (ci (deep : Nat))] [.var 58 [.of (intsC counts), y0]]) (okR (NSt op tb ix cols kids terms lk rk r est cost counts deep y0 [wordL op])) := by
  have hlk : lookupX (TT.of Tryd.prog) [.var 58 [.of (intsC counts), y0], .var 34 [xint op, xstr (strL tb), xstr (strL ix), .of (colsC cols), .of (.sl (pnsC kids) kids.length), .of (termsC terms), .of (termsC lk), .of (termsC rk), .of (r 0), .of (r 1), .of (r 2), .of (r 3), .of (r 4), .of (r 5), .of (r 6), .of (r 7), .of (r 8), .of (r 9), .of (r 10), .of (r 11), .of (r 12), xint est, xint cost], .map (mapIS wordT)] 63 (.mp 2) (.of (.lit (.int .i64 op))) true = out (.tup (lookX (lookT wordT op))) := look_IS (l := wordT) (by simp) op
  rcases hy0 with rfl | ⟨cs0, n0, rfl⟩
  all_goals cases hlo : lookT wordT op
  all_goals have hwl : wordL op = (lookT wordT op).getD [112, 108, 97, 110] := rfl
  all_goals rw [hlo] at hwl
  all_goals simp only [Option.getD_none, Option.getD_some] at hwl
  all_goals simp -implicitDefEqProofs (maxSteps := 1000000) only [heads, tails, Tryd.f20, ↓zD, zU, Nat.zero_mul, Nat.reduceMul, List.length_map, Tk.nm.injEq, Tk.cell.injEq, false_and, and_false, Nat.le_add_right, Nat.le_refl, ↓reduceIte, Bool.or_false, Bool.false_or, Bool.and_true, Bool.true_and, Bool.false_and, Bool.true_or, Bool.or_true, Option.isNone_none, Option.isNone_some, List.any_cons, List.any_nil, Bool.and_false, Nat.reduceBEq, Nat.reduceLeDiff, Int.reduceLT, Int.reduceEq, Int.reduceLE, Int.reduceAdd, Int.reduceToNat, Int.reduceNeg, Int.cast_ofNat_Int, Nat.reduceLT, List.drop_succ_cons, List.take_succ_cons, List.singleton_append, Nat.zero_add, List.set_cons_zero, List.set_cons_succ, List.drop_nil, List.take_nil, Option.map_some, Option.map_none, Option.getD_some, Option.getD_none, Option.bind_some, List.cons_append, List.nil_append, List.append_nil, List.map_cons, List.map_nil, List.range_zero, List.take_zero, List.flatten_nil, List.filter_nil, List.length_nil, List.length_cons, List.drop_zero, List.not_mem_nil, List.mem_cons, Bool.true_eq_false, Bool.false_eq_true, Nat.reduceEqDiff, Nat.reduceAdd, List.getElem?_toArray, List.toList_toArray, List.getElem?_cons_zero, List.getElem?_cons_succ, decide_eq_true_eq, beq_self_eq_true, beq_true, beq_false, decide_true, decide_false, Bool.not_true, Bool.not_false, true_and, and_true, or_false, false_or, Bool.and_eq_true, reduceCtorEq, not_false_eq_true, cat_u, lit_strL, List.append_assoc, boxO, zeroX_at, T34, P34, T24, P24, T23, P23, T22, P22, fa34_0, fa34_1, fa34_2, fa34_3, fa34_4, fa34_5, fa34_6, fa34_7, fa34_17, fa34_18, P3, P9, U3, U9, U37, U24, U22, U23, T9, T3, T37, len_txt, pc_t, WS_mk words_call call38 obj38, obj38, hlk, hlo, lookX, pr_obj, bs_s1, okR_at]
  rotate_left
  rename_i w
  refine ⟨?_, ?_, ?_, ?_, 4, 1, ?_, ?_⟩ <;> (simp -implicitDefEqProofs (maxSteps := 1000000) only [↓zD, zU, Nat.zero_mul, Nat.reduceMul, List.length_map, Tk.nm.injEq, Tk.cell.injEq, false_and, and_false, Nat.le_add_right, Nat.le_refl, ↓reduceIte, Bool.or_false, Bool.false_or, Bool.and_true, Bool.true_and, Bool.false_and, Bool.true_or, Bool.or_true, Option.isNone_none, Option.isNone_some, List.any_cons, List.any_nil, Bool.and_false, Nat.reduceBEq, Nat.reduceLeDiff, Int.reduceLT, Int.reduceEq, Int.reduceLE, Int.reduceAdd, Int.reduceToNat, Int.reduceNeg, Int.cast_ofNat_Int, Nat.reduceLT, List.drop_succ_cons, List.take_succ_cons, List.singleton_append, Nat.zero_add, List.set_cons_zero, List.set_cons_succ, List.drop_nil, List.take_nil, Option.map_some, Option.map_none, Option.getD_some, Option.getD_none, Option.bind_some, List.cons_append, List.nil_append, List.append_nil, List.map_cons, List.map_nil, List.range_zero, List.take_zero, List.flatten_nil, List.filter_nil, List.length_nil, List.length_cons, List.drop_zero, List.not_mem_nil, List.mem_cons, Bool.true_eq_false, Bool.false_eq_true, Nat.reduceEqDiff, Nat.reduceAdd, List.getElem?_toArray, List.toList_toArray, List.getElem?_cons_zero, List.getElem?_cons_succ, decide_eq_true_eq, beq_self_eq_true, beq_true, beq_false, decide_true, decide_false, Bool.not_true, Bool.not_false, true_and, and_true, or_false, false_or, Bool.and_eq_true, reduceCtorEq, not_false_eq_true, cat_u, lit_strL, List.append_assoc, boxO, zeroX_at, T34, P34, T24, P24, T23, P23, T22, P22, fa34_0, fa34_1, fa34_2, fa34_3, fa34_4, fa34_5, fa34_6, fa34_7, fa34_17, fa34_18, P3, P9, U3, U9, U37, U24, U22, U23, T9, T3, T37, len_txt, pc_t, hwl] <;> rfl)
  rotate_left
  rename_i w
  refine ⟨?_, ?_, ?_, ?_, 4, 1, ?_, ?_⟩ <;> (simp -implicitDefEqProofs (maxSteps := 1000000) only [↓zD, zU, Nat.zero_mul, Nat.reduceMul, List.length_map, Tk.nm.injEq, Tk.cell.injEq, false_and, and_false, Nat.le_add_right, Nat.le_refl, ↓reduceIte, Bool.or_false, Bool.false_or, Bool.and_true, Bool.true_and, Bool.false_and, Bool.true_or, Bool.or_true, Option.isNone_none, Option.isNone_some, List.any_cons, List.any_nil, Bool.and_false, Nat.reduceBEq, Nat.reduceLeDiff, Int.reduceLT, Int.reduceEq, Int.reduceLE, Int.reduceAdd, Int.reduceToNat, Int.reduceNeg, Int.cast_ofNat_Int, Nat.reduceLT, List.drop_succ_cons, List.take_succ_cons, List.singleton_append, Nat.zero_add, List.set_cons_zero, List.set_cons_succ, List.drop_nil, List.take_nil, Option.map_some, Option.map_none, Option.getD_some, Option.getD_none, Option.bind_some, List.cons_append, List.nil_append, List.append_nil, List.map_cons, List.map_nil, List.range_zero, List.take_zero, List.flatten_nil, List.filter_nil, List.length_nil, List.length_cons, List.drop_zero, List.not_mem_nil, List.mem_cons, Bool.true_eq_false, Bool.false_eq_true, Nat.reduceEqDiff, Nat.reduceAdd, List.getElem?_toArray, List.toList_toArray, List.getElem?_cons_zero, List.getElem?_cons_succ, decide_eq_true_eq, beq_self_eq_true, beq_true, beq_false, decide_true, decide_false, Bool.not_true, Bool.not_false, true_and, and_true, or_false, false_or, Bool.and_eq_true, reduceCtorEq, not_false_eq_true, cat_u, lit_strL, List.append_assoc, boxO, zeroX_at, T34, P34, T24, P24, T23, P23, T22, P22, fa34_0, fa34_1, fa34_2, fa34_3, fa34_4, fa34_5, fa34_6, fa34_7, fa34_17, fa34_18, P3, P9, U3, U9, U37, U24, U22, U23, T9, T3, T37, len_txt, pc_t, hwl] <;> rfl)
  all_goals refine ⟨?_, ?_, ?_, ?_, 5, 1, ?_, ?_⟩ <;> (simp -implicitDefEqProofs (maxSteps := 1000000) only [↓zD, zU, Nat.zero_mul, Nat.reduceMul, List.length_map, Tk.nm.injEq, Tk.cell.injEq, false_and, and_false, Nat.le_add_right, Nat.le_refl, ↓reduceIte, Bool.or_false, Bool.false_or, Bool.and_true, Bool.true_and, Bool.false_and, Bool.true_or, Bool.or_true, Option.isNone_none, Option.isNone_some, List.any_cons, List.any_nil, Bool.and_false, Nat.reduceBEq, Nat.reduceLeDiff, Int.reduceLT, Int.reduceEq, Int.reduceLE, Int.reduceAdd, Int.reduceToNat, Int.reduceNeg, Int.cast_ofNat_Int, Nat.reduceLT, List.drop_succ_cons, List.take_succ_cons, List.singleton_append, Nat.zero_add, List.set_cons_zero, List.set_cons_succ, List.drop_nil, List.take_nil, Option.map_some, Option.map_none, Option.getD_some, Option.getD_none, Option.bind_some, List.cons_append, List.nil_append, List.append_nil, List.map_cons, List.map_nil, List.range_zero, List.take_zero, List.flatten_nil, List.filter_nil, List.length_nil, List.length_cons, List.drop_zero, List.not_mem_nil, List.mem_cons, Bool.true_eq_false, Bool.false_eq_true, Nat.reduceEqDiff, Nat.reduceAdd, List.getElem?_toArray, List.toList_toArray, List.getElem?_cons_zero, List.getElem?_cons_succ, decide_eq_true_eq, beq_self_eq_true, beq_true, beq_false, decide_true, decide_false, Bool.not_true, Bool.not_false, true_and, and_true, or_false, false_or, Bool.and_eq_true, reduceCtorEq, not_false_eq_true, cat_u, lit_strL, List.append_assoc, boxO, zeroX_at, T34, P34, T24, P24, T23, P23, T22, P22, fa34_0, fa34_1, fa34_2, fa34_3, fa34_4, fa34_5, fa34_6, fa34_7, fa34_17, fa34_18, P3, P9, U3, U9, U37, U24, U22, U23, T9, T3, T37, len_txt, pc_t, hwl] <;> rfl)
set_option maxRecDepth 100000 in
theorem node2 (s : S) (hs : NSt op tb ix cols kids terms lk rk r est cost counts deep y0 L s) (hl : L.length + 1 ≤ LIM) : WC Tryd.prog pr (heads 1 (tails 4 (Tryd.f20.body.getD Code.skip))) s (okR (NSt op tb ix cols kids terms lk rk r est cost counts deep y0 (if tb = [] then L else L ++ [tb]))) := by
  obtain ⟨h0, h2, h4, ho, c, k, hck, h8⟩ := hs
  have hold : Old s.clk (.nm c k 0) := by rw [Z68]; exact hck
  obtain ⟨b1, p1⟩ : ∃ b : Bool, (tb = []) = (b = true) := ⟨decide (tb = []), by simp⟩
  have hap := fun tk t t' a => ap_s1 tk t t' L a (n := L.length) hl
  rcases hy0 with rfl | ⟨cs0, n0, rfl⟩
  all_goals (cases b1)
  all_goals simp -implicitDefEqProofs (maxSteps := 1000000) only [heads, tails, Tryd.f20, ↓zD, zU, Nat.zero_mul, Nat.reduceMul, List.length_map, Tk.nm.injEq, Tk.cell.injEq, false_and, and_false, Nat.le_add_right, Nat.le_refl, ↓reduceIte, Bool.or_false, Bool.false_or, Bool.and_true, Bool.true_and, Bool.false_and, Bool.true_or, Bool.or_true, Option.isNone_none, Option.isNone_some, List.any_cons, List.any_nil, Bool.and_false, Nat.reduceBEq, Nat.reduceLeDiff, Int.reduceLT, Int.reduceEq, Int.reduceLE, Int.reduceAdd, Int.reduceToNat, Int.reduceNeg, Int.cast_ofNat_Int, Nat.reduceLT, List.drop_succ_cons, List.take_succ_cons, List.singleton_append, Nat.zero_add, List.set_cons_zero, List.set_cons_succ, List.drop_nil, List.take_nil, Option.map_some, Option.map_none, Option.getD_some, Option.getD_none, Option.bind_some, List.cons_append, List.nil_append, List.append_nil, List.map_cons, List.map_nil, List.range_zero, List.take_zero, List.flatten_nil, List.filter_nil, List.length_nil, List.length_cons, List.drop_zero, List.not_mem_nil, List.mem_cons, Bool.true_eq_false, Bool.false_eq_true, Nat.reduceEqDiff, Nat.reduceAdd, List.getElem?_toArray, List.toList_toArray, List.getElem?_cons_zero, List.getElem?_cons_succ, decide_eq_true_eq, beq_self_eq_true, beq_true, beq_false, decide_true, decide_false, Bool.not_true, Bool.not_false, true_and, and_true, or_false, false_or, Bool.and_eq_true, reduceCtorEq, not_false_eq_true, cat_u, lit_strL, List.append_assoc, boxO, zeroX_at, T34, P34, T24, P24, T23, P23, T22, P22, fa34_0, fa34_1, fa34_2, fa34_3, fa34_4, fa34_5, fa34_6, fa34_7, fa34_17, fa34_18, P3, P9, U3, U9, U37, U24, U22, U23, T9, T3, T37, len_txt, pc_t, tails, h0, h2, h4, h8, ho, strL_eq, p1, bs_s1, hap, okR_at, old_add hold, old_new hold, hold]
  all_goals first
  | (refine ⟨?_, ?_, ?_, ?_, s.clk + 1, 4, ?_, ?_⟩ <;> (simp -implicitDefEqProofs (maxSteps := 1000000) only [↓zD, zU, Nat.zero_mul, Nat.reduceMul, List.length_map, Tk.nm.injEq, Tk.cell.injEq, false_and, and_false, Nat.le_add_right, Nat.le_refl, ↓reduceIte, Bool.or_false, Bool.false_or, Bool.and_true, Bool.true_and, Bool.false_and, Bool.true_or, Bool.or_true, Option.isNone_none, Option.isNone_some, List.any_cons, List.any_nil, Bool.and_false, Nat.reduceBEq, Nat.reduceLeDiff, Int.reduceLT, Int.reduceEq, Int.reduceLE, Int.reduceAdd, Int.reduceToNat, Int.reduceNeg, Int.cast_ofNat_Int, Nat.reduceLT, List.drop_succ_cons, List.take_succ_cons, List.singleton_append, Nat.zero_add, List.set_cons_zero, List.set_cons_succ, List.drop_nil, List.take_nil, Option.map_some, Option.map_none, Option.getD_some, Option.getD_none, Option.bind_some, List.cons_append, List.nil_append, List.append_nil, List.map_cons, List.map_nil, List.range_zero, List.take_zero, List.flatten_nil, List.filter_nil, List.length_nil, List.length_cons, List.drop_zero, List.not_mem_nil, List.mem_cons, Bool.true_eq_false, Bool.false_eq_true, Nat.reduceEqDiff, Nat.reduceAdd, List.getElem?_toArray, List.toList_toArray, List.getElem?_cons_zero, List.getElem?_cons_succ, decide_eq_true_eq, beq_self_eq_true, beq_true, beq_false, decide_true, decide_false, Bool.not_true, Bool.not_false, true_and, and_true, or_false, false_or, Bool.and_eq_true, reduceCtorEq, not_false_eq_true, cat_u, lit_strL, List.append_assoc, boxO, zeroX_at, T34, P34, T24, P24, T23, P23, T22, P22, fa34_0, fa34_1, fa34_2, fa34_3, fa34_4, fa34_5, fa34_6, fa34_7, fa34_17, fa34_18, P3, P9, U3, U9, U37, U24, U22, U23, T9, T3, T37, len_txt, pc_t, h0, h2, h4, h8, ho, List.length_append] <;> first | rfl | omega))
  | (refine ⟨?_, ?_, ?_, ?_, c, k, ?_, ?_⟩ <;> (simp -implicitDefEqProofs (maxSteps := 1000000) only [↓zD, zU, Nat.zero_mul, Nat.reduceMul, List.length_map, Tk.nm.injEq, Tk.cell.injEq, false_and, and_false, Nat.le_add_right, Nat.le_refl, ↓reduceIte, Bool.or_false, Bool.false_or, Bool.and_true, Bool.true_and, Bool.false_and, Bool.true_or, Bool.or_true, Option.isNone_none, Option.isNone_some, List.any_cons, List.any_nil, Bool.and_false, Nat.reduceBEq, Nat.reduceLeDiff, Int.reduceLT, Int.reduceEq, Int.reduceLE, Int.reduceAdd, Int.reduceToNat, Int.reduceNeg, Int.cast_ofNat_Int, Nat.reduceLT, List.drop_succ_cons, List.take_succ_cons, List.singleton_append, Nat.zero_add, List.set_cons_zero, List.set_cons_succ, List.drop_nil, List.take_nil, Option.map_some, Option.map_none, Option.getD_some, Option.getD_none, Option.bind_some, List.cons_append, List.nil_append, List.append_nil, List.map_cons, List.map_nil, List.range_zero, List.take_zero, List.flatten_nil, List.filter_nil, List.length_nil, List.length_cons, List.drop_zero, List.not_mem_nil, List.mem_cons, Bool.true_eq_false, Bool.false_eq_true, Nat.reduceEqDiff, Nat.reduceAdd, List.getElem?_toArray, List.toList_toArray, List.getElem?_cons_zero, List.getElem?_cons_succ, decide_eq_true_eq, beq_self_eq_true, beq_true, beq_false, decide_true, decide_false, Bool.not_true, Bool.not_false, true_and, and_true, or_false, false_or, Bool.and_eq_true, reduceCtorEq, not_false_eq_true, cat_u, lit_strL, List.append_assoc, boxO, zeroX_at, T34, P34, T24, P24, T23, P23, T22, P22, fa34_0, fa34_1, fa34_2, fa34_3, fa34_4, fa34_5, fa34_6, fa34_7, fa34_17, fa34_18, P3, P9, U3, U9, U37, U24, U22, U23, T9, T3, T37, len_txt, pc_t, h0, h2, h4, h8, ho, List.length_append] <;> first | rfl | omega))
set_option maxRecDepth 100000 in
theorem node3 (s : S) (hs : NSt op tb ix cols kids terms lk rk r est cost counts deep y0 L s) (hl : L.length + 2 ≤ LIM) : WC Tryd.prog pr (heads 1 (tails 5 (Tryd.f20.body.getD Code.skip))) s (okR (NSt op tb ix cols kids terms lk rk r est cost counts deep y0 (if op = 2 then L ++ [[98, 121], ix] else L))) := by
  obtain ⟨h0, h2, h4, ho, c, k, hck, h8⟩ := hs
  have hold : Old s.clk (.nm c k 0) := by rw [Z68]; exact hck
  obtain ⟨b1, p1⟩ : ∃ b : Bool, (op = 2) = (b = true) := ⟨decide (op = 2), by simp⟩
  have hap := fun tk t t' a b => ap_s2 tk t t' L a b (n := L.length) hl
  rcases hy0 with rfl | ⟨cs0, n0, rfl⟩
  all_goals (cases b1)
  all_goals simp -implicitDefEqProofs (maxSteps := 1000000) only [heads, tails, Tryd.f20, ↓zD, zU, Nat.zero_mul, Nat.reduceMul, List.length_map, Tk.nm.injEq, Tk.cell.injEq, false_and, and_false, Nat.le_add_right, Nat.le_refl, ↓reduceIte, Bool.or_false, Bool.false_or, Bool.and_true, Bool.true_and, Bool.false_and, Bool.true_or, Bool.or_true, Option.isNone_none, Option.isNone_some, List.any_cons, List.any_nil, Bool.and_false, Nat.reduceBEq, Nat.reduceLeDiff, Int.reduceLT, Int.reduceEq, Int.reduceLE, Int.reduceAdd, Int.reduceToNat, Int.reduceNeg, Int.cast_ofNat_Int, Nat.reduceLT, List.drop_succ_cons, List.take_succ_cons, List.singleton_append, Nat.zero_add, List.set_cons_zero, List.set_cons_succ, List.drop_nil, List.take_nil, Option.map_some, Option.map_none, Option.getD_some, Option.getD_none, Option.bind_some, List.cons_append, List.nil_append, List.append_nil, List.map_cons, List.map_nil, List.range_zero, List.take_zero, List.flatten_nil, List.filter_nil, List.length_nil, List.length_cons, List.drop_zero, List.not_mem_nil, List.mem_cons, Bool.true_eq_false, Bool.false_eq_true, Nat.reduceEqDiff, Nat.reduceAdd, List.getElem?_toArray, List.toList_toArray, List.getElem?_cons_zero, List.getElem?_cons_succ, decide_eq_true_eq, beq_self_eq_true, beq_true, beq_false, decide_true, decide_false, Bool.not_true, Bool.not_false, true_and, and_true, or_false, false_or, Bool.and_eq_true, reduceCtorEq, not_false_eq_true, cat_u, lit_strL, List.append_assoc, boxO, zeroX_at, T34, P34, T24, P24, T23, P23, T22, P22, fa34_0, fa34_1, fa34_2, fa34_3, fa34_4, fa34_5, fa34_6, fa34_7, fa34_17, fa34_18, P3, P9, U3, U9, U37, U24, U22, U23, T9, T3, T37, len_txt, pc_t, tails, h0, h2, h4, h8, ho, p1, bs_s2, hap, okR_at, old_add hold, old_new hold, hold]
  all_goals first
  | (refine ⟨?_, ?_, ?_, ?_, s.clk + 1, 4, ?_, ?_⟩ <;> (simp -implicitDefEqProofs (maxSteps := 1000000) only [↓zD, zU, Nat.zero_mul, Nat.reduceMul, List.length_map, Tk.nm.injEq, Tk.cell.injEq, false_and, and_false, Nat.le_add_right, Nat.le_refl, ↓reduceIte, Bool.or_false, Bool.false_or, Bool.and_true, Bool.true_and, Bool.false_and, Bool.true_or, Bool.or_true, Option.isNone_none, Option.isNone_some, List.any_cons, List.any_nil, Bool.and_false, Nat.reduceBEq, Nat.reduceLeDiff, Int.reduceLT, Int.reduceEq, Int.reduceLE, Int.reduceAdd, Int.reduceToNat, Int.reduceNeg, Int.cast_ofNat_Int, Nat.reduceLT, List.drop_succ_cons, List.take_succ_cons, List.singleton_append, Nat.zero_add, List.set_cons_zero, List.set_cons_succ, List.drop_nil, List.take_nil, Option.map_some, Option.map_none, Option.getD_some, Option.getD_none, Option.bind_some, List.cons_append, List.nil_append, List.append_nil, List.map_cons, List.map_nil, List.range_zero, List.take_zero, List.flatten_nil, List.filter_nil, List.length_nil, List.length_cons, List.drop_zero, List.not_mem_nil, List.mem_cons, Bool.true_eq_false, Bool.false_eq_true, Nat.reduceEqDiff, Nat.reduceAdd, List.getElem?_toArray, List.toList_toArray, List.getElem?_cons_zero, List.getElem?_cons_succ, decide_eq_true_eq, beq_self_eq_true, beq_true, beq_false, decide_true, decide_false, Bool.not_true, Bool.not_false, true_and, and_true, or_false, false_or, Bool.and_eq_true, reduceCtorEq, not_false_eq_true, cat_u, lit_strL, List.append_assoc, boxO, zeroX_at, T34, P34, T24, P24, T23, P23, T22, P22, fa34_0, fa34_1, fa34_2, fa34_3, fa34_4, fa34_5, fa34_6, fa34_7, fa34_17, fa34_18, P3, P9, U3, U9, U37, U24, U22, U23, T9, T3, T37, len_txt, pc_t, h0, h2, h4, h8, ho, List.length_append] <;> first | rfl | omega))
  | (refine ⟨?_, ?_, ?_, ?_, c, k, ?_, ?_⟩ <;> (simp -implicitDefEqProofs (maxSteps := 1000000) only [↓zD, zU, Nat.zero_mul, Nat.reduceMul, List.length_map, Tk.nm.injEq, Tk.cell.injEq, false_and, and_false, Nat.le_add_right, Nat.le_refl, ↓reduceIte, Bool.or_false, Bool.false_or, Bool.and_true, Bool.true_and, Bool.false_and, Bool.true_or, Bool.or_true, Option.isNone_none, Option.isNone_some, List.any_cons, List.any_nil, Bool.and_false, Nat.reduceBEq, Nat.reduceLeDiff, Int.reduceLT, Int.reduceEq, Int.reduceLE, Int.reduceAdd, Int.reduceToNat, Int.reduceNeg, Int.cast_ofNat_Int, Nat.reduceLT, List.drop_succ_cons, List.take_succ_cons, List.singleton_append, Nat.zero_add, List.set_cons_zero, List.set_cons_succ, List.drop_nil, List.take_nil, Option.map_some, Option.map_none, Option.getD_some, Option.getD_none, Option.bind_some, List.cons_append, List.nil_append, List.append_nil, List.map_cons, List.map_nil, List.range_zero, List.take_zero, List.flatten_nil, List.filter_nil, List.length_nil, List.length_cons, List.drop_zero, List.not_mem_nil, List.mem_cons, Bool.true_eq_false, Bool.false_eq_true, Nat.reduceEqDiff, Nat.reduceAdd, List.getElem?_toArray, List.toList_toArray, List.getElem?_cons_zero, List.getElem?_cons_succ, decide_eq_true_eq, beq_self_eq_true, beq_true, beq_false, decide_true, decide_false, Bool.not_true, Bool.not_false, true_and, and_true, or_false, false_or, Bool.and_eq_true, reduceCtorEq, not_false_eq_true, cat_u, lit_strL, List.append_assoc, boxO, zeroX_at, T34, P34, T24, P24, T23, P23, T22, P22, fa34_0, fa34_1, fa34_2, fa34_3, fa34_4, fa34_5, fa34_6, fa34_7, fa34_17, fa34_18, P3, P9, U3, U9, U37, U24, U22, U23, T9, T3, T37, len_txt, pc_t, h0, h2, h4, h8, ho, List.length_append] <;> first | rfl | omega))
set_option maxRecDepth 100000 in
theorem node4 (s : S) (hs : NSt op tb ix cols kids terms lk rk r est cost counts deep y0 L s) (hl : L.length + 2 ≤ LIM) (hx : ∀ K, CallK Tryd.prog pr 39 [.of (.agg [ci op, cstr (strL tb), cstr (strL ix), colsC cols, .sl (pnsC kids) kids.length, termsC terms, termsC lk, termsC rk, r 0, r 1, r 2, r 3, r 4, r 5, r 6, r 7, r 8, r 9, r 10, r 11, r 12, ci est, ci cost])] [] K ↔ K ⟨false, [xstr (strL (keysL kids lk rk))], []⟩) : WC Tryd.prog pr (heads 1 (tails 6 (Tryd.f20.body.getD Code.skip))) s (okR (NSt op tb ix cols kids terms lk rk r est cost counts deep y0 (if lk ≠ [] ∧ rk ≠ [] then L ++ [[111, 110], keysL kids lk rk] else L))) := by
  obtain ⟨h0, h2, h4, ho, c, k, hck, h8⟩ := hs
  have hold : Old s.clk (.nm c k 0) := by rw [Z68]; exact hck
  obtain ⟨b1, p3, q3⟩ : ∃ b : Bool, (lk ≠ []) = (b = true) ∧ ((0 : Int) < (lk.length : Int)) = (b = true) := ⟨decide (lk ≠ []), by simp, by cases lk <;> simp <;> omega⟩
  obtain ⟨b4, p4, q4⟩ : ∃ b : Bool, (rk ≠ []) = (b = true) ∧ ((0 : Int) < (rk.length : Int)) = (b = true) := ⟨decide (rk ≠ []), by simp, by cases rk <;> simp <;> omega⟩
  have hap := fun tk t t' a b => ap_s2 tk t t' L a b (n := L.length) hl
  rcases hy0 with rfl | ⟨cs0, n0, rfl⟩
  all_goals (cases b1 <;> cases b4)
  all_goals simp -implicitDefEqProofs (maxSteps := 1000000) only [heads, tails, Tryd.f20, ↓zD, zU, Nat.zero_mul, Nat.reduceMul, List.length_map, Tk.nm.injEq, Tk.cell.injEq, false_and, and_false, Nat.le_add_right, Nat.le_refl, ↓reduceIte, Bool.or_false, Bool.false_or, Bool.and_true, Bool.true_and, Bool.false_and, Bool.true_or, Bool.or_true, Option.isNone_none, Option.isNone_some, List.any_cons, List.any_nil, Bool.and_false, Nat.reduceBEq, Nat.reduceLeDiff, Int.reduceLT, Int.reduceEq, Int.reduceLE, Int.reduceAdd, Int.reduceToNat, Int.reduceNeg, Int.cast_ofNat_Int, Nat.reduceLT, List.drop_succ_cons, List.take_succ_cons, List.singleton_append, Nat.zero_add, List.set_cons_zero, List.set_cons_succ, List.drop_nil, List.take_nil, Option.map_some, Option.map_none, Option.getD_some, Option.getD_none, Option.bind_some, List.cons_append, List.nil_append, List.append_nil, List.map_cons, List.map_nil, List.range_zero, List.take_zero, List.flatten_nil, List.filter_nil, List.length_nil, List.length_cons, List.drop_zero, List.not_mem_nil, List.mem_cons, Bool.true_eq_false, Bool.false_eq_true, Nat.reduceEqDiff, Nat.reduceAdd, List.getElem?_toArray, List.toList_toArray, List.getElem?_cons_zero, List.getElem?_cons_succ, decide_eq_true_eq, beq_self_eq_true, beq_true, beq_false, decide_true, decide_false, Bool.not_true, Bool.not_false, true_and, and_true, or_false, false_or, Bool.and_eq_true, reduceCtorEq, not_false_eq_true, cat_u, lit_strL, List.append_assoc, boxO, zeroX_at, T34, P34, T24, P24, T23, P23, T22, P22, fa34_0, fa34_1, fa34_2, fa34_3, fa34_4, fa34_5, fa34_6, fa34_7, fa34_17, fa34_18, P3, P9, U3, U9, U37, U24, U22, U23, T9, T3, T37, len_txt, pc_t, tails, h0, h2, h4, h8, ho, p3, q3, p4, q4, len_tms, rd_agg23, bs_s2, hap, hx, pr_obj, obj39, call39, okR_at, old_add hold, old_new hold, hold]
  all_goals first
  | (refine ⟨?_, ?_, ?_, ?_, s.clk + 1, 4, ?_, ?_⟩ <;> (simp -implicitDefEqProofs (maxSteps := 1000000) only [↓zD, zU, Nat.zero_mul, Nat.reduceMul, List.length_map, Tk.nm.injEq, Tk.cell.injEq, false_and, and_false, Nat.le_add_right, Nat.le_refl, ↓reduceIte, Bool.or_false, Bool.false_or, Bool.and_true, Bool.true_and, Bool.false_and, Bool.true_or, Bool.or_true, Option.isNone_none, Option.isNone_some, List.any_cons, List.any_nil, Bool.and_false, Nat.reduceBEq, Nat.reduceLeDiff, Int.reduceLT, Int.reduceEq, Int.reduceLE, Int.reduceAdd, Int.reduceToNat, Int.reduceNeg, Int.cast_ofNat_Int, Nat.reduceLT, List.drop_succ_cons, List.take_succ_cons, List.singleton_append, Nat.zero_add, List.set_cons_zero, List.set_cons_succ, List.drop_nil, List.take_nil, Option.map_some, Option.map_none, Option.getD_some, Option.getD_none, Option.bind_some, List.cons_append, List.nil_append, List.append_nil, List.map_cons, List.map_nil, List.range_zero, List.take_zero, List.flatten_nil, List.filter_nil, List.length_nil, List.length_cons, List.drop_zero, List.not_mem_nil, List.mem_cons, Bool.true_eq_false, Bool.false_eq_true, Nat.reduceEqDiff, Nat.reduceAdd, List.getElem?_toArray, List.toList_toArray, List.getElem?_cons_zero, List.getElem?_cons_succ, decide_eq_true_eq, beq_self_eq_true, beq_true, beq_false, decide_true, decide_false, Bool.not_true, Bool.not_false, true_and, and_true, or_false, false_or, Bool.and_eq_true, reduceCtorEq, not_false_eq_true, cat_u, lit_strL, List.append_assoc, boxO, zeroX_at, T34, P34, T24, P24, T23, P23, T22, P22, fa34_0, fa34_1, fa34_2, fa34_3, fa34_4, fa34_5, fa34_6, fa34_7, fa34_17, fa34_18, P3, P9, U3, U9, U37, U24, U22, U23, T9, T3, T37, len_txt, pc_t, h0, h2, h4, h8, ho, List.length_append] <;> first | rfl | omega))
  | (refine ⟨?_, ?_, ?_, ?_, c, k, ?_, ?_⟩ <;> (simp -implicitDefEqProofs (maxSteps := 1000000) only [↓zD, zU, Nat.zero_mul, Nat.reduceMul, List.length_map, Tk.nm.injEq, Tk.cell.injEq, false_and, and_false, Nat.le_add_right, Nat.le_refl, ↓reduceIte, Bool.or_false, Bool.false_or, Bool.and_true, Bool.true_and, Bool.false_and, Bool.true_or, Bool.or_true, Option.isNone_none, Option.isNone_some, List.any_cons, List.any_nil, Bool.and_false, Nat.reduceBEq, Nat.reduceLeDiff, Int.reduceLT, Int.reduceEq, Int.reduceLE, Int.reduceAdd, Int.reduceToNat, Int.reduceNeg, Int.cast_ofNat_Int, Nat.reduceLT, List.drop_succ_cons, List.take_succ_cons, List.singleton_append, Nat.zero_add, List.set_cons_zero, List.set_cons_succ, List.drop_nil, List.take_nil, Option.map_some, Option.map_none, Option.getD_some, Option.getD_none, Option.bind_some, List.cons_append, List.nil_append, List.append_nil, List.map_cons, List.map_nil, List.range_zero, List.take_zero, List.flatten_nil, List.filter_nil, List.length_nil, List.length_cons, List.drop_zero, List.not_mem_nil, List.mem_cons, Bool.true_eq_false, Bool.false_eq_true, Nat.reduceEqDiff, Nat.reduceAdd, List.getElem?_toArray, List.toList_toArray, List.getElem?_cons_zero, List.getElem?_cons_succ, decide_eq_true_eq, beq_self_eq_true, beq_true, beq_false, decide_true, decide_false, Bool.not_true, Bool.not_false, true_and, and_true, or_false, false_or, Bool.and_eq_true, reduceCtorEq, not_false_eq_true, cat_u, lit_strL, List.append_assoc, boxO, zeroX_at, T34, P34, T24, P24, T23, P23, T22, P22, fa34_0, fa34_1, fa34_2, fa34_3, fa34_4, fa34_5, fa34_6, fa34_7, fa34_17, fa34_18, P3, P9, U3, U9, U37, U24, U22, U23, T9, T3, T37, len_txt, pc_t, h0, h2, h4, h8, ho, List.length_append] <;> first | rfl | omega))
set_option maxRecDepth 100000 in
theorem node5 (s : S) (hs : NSt op tb ix cols kids terms lk rk r est cost counts deep y0 L s) (hl : L.length + 1 ≤ LIM) (hx : ∀ K, CallK Tryd.prog pr 40 [.of (.agg [ci op, cstr (strL tb), cstr (strL ix), colsC cols, .sl (pnsC kids) kids.length, termsC terms, termsC lk, termsC rk, r 0, r 1, r 2, r 3, r 4, r 5, r 6, r 7, r 8, r 9, r 10, r 11, r 12, ci est, ci cost])] [] K ↔ K ⟨false, [xstr (strL (termsL (.mk op tb ix cols kids terms lk rk r est cost) terms))], []⟩) : WC Tryd.prog pr (heads 1 (tails 7 (Tryd.f20.body.getD Code.skip))) s (okR (NSt op tb ix cols kids terms lk rk r est cost counts deep y0 (if terms = [] then L else L ++ [termsL (.mk op tb ix cols kids terms lk rk r est cost) terms]))) := by
  obtain ⟨h0, h2, h4, ho, c, k, hck, h8⟩ := hs
  have hold : Old s.clk (.nm c k 0) := by rw [Z68]; exact hck
  obtain ⟨b1, p5, q5⟩ : ∃ b : Bool, (terms = []) = (b = true) ∧ ((0 : Int) < (terms.length : Int)) = (b = false) := ⟨decide (terms = []), by simp, by cases terms <;> simp <;> omega⟩
  have hap := fun tk t t' a => ap_s1 tk t t' L a (n := L.length) hl
  rcases hy0 with rfl | ⟨cs0, n0, rfl⟩
  all_goals (cases b1)
  all_goals simp -implicitDefEqProofs (maxSteps := 1000000) only [heads, tails, Tryd.f20, ↓zD, zU, Nat.zero_mul, Nat.reduceMul, List.length_map, Tk.nm.injEq, Tk.cell.injEq, false_and, and_false, Nat.le_add_right, Nat.le_refl, ↓reduceIte, Bool.or_false, Bool.false_or, Bool.and_true, Bool.true_and, Bool.false_and, Bool.true_or, Bool.or_true, Option.isNone_none, Option.isNone_some, List.any_cons, List.any_nil, Bool.and_false, Nat.reduceBEq, Nat.reduceLeDiff, Int.reduceLT, Int.reduceEq, Int.reduceLE, Int.reduceAdd, Int.reduceToNat, Int.reduceNeg, Int.cast_ofNat_Int, Nat.reduceLT, List.drop_succ_cons, List.take_succ_cons, List.singleton_append, Nat.zero_add, List.set_cons_zero, List.set_cons_succ, List.drop_nil, List.take_nil, Option.map_some, Option.map_none, Option.getD_some, Option.getD_none, Option.bind_some, List.cons_append, List.nil_append, List.append_nil, List.map_cons, List.map_nil, List.range_zero, List.take_zero, List.flatten_nil, List.filter_nil, List.length_nil, List.length_cons, List.drop_zero, List.not_mem_nil, List.mem_cons, Bool.true_eq_false, Bool.false_eq_true, Nat.reduceEqDiff, Nat.reduceAdd, List.getElem?_toArray, List.toList_toArray, List.getElem?_cons_zero, List.getElem?_cons_succ, decide_eq_true_eq, beq_self_eq_true, beq_true, beq_false, decide_true, decide_false, Bool.not_true, Bool.not_false, true_and, and_true, or_false, false_or, Bool.and_eq_true, reduceCtorEq, not_false_eq_true, cat_u, lit_strL, List.append_assoc, boxO, zeroX_at, T34, P34, T24, P24, T23, P23, T22, P22, fa34_0, fa34_1, fa34_2, fa34_3, fa34_4, fa34_5, fa34_6, fa34_7, fa34_17, fa34_18, P3, P9, U3, U9, U37, U24, U22, U23, T9, T3, T37, len_txt, pc_t, tails, h0, h2, h4, h8, ho, p5, q5, len_tms, rd_agg23, bs_s1, hap, hx, pr_obj, obj40, call40, okR_at, old_add hold, old_new hold, hold]
  all_goals first
  | (refine ⟨?_, ?_, ?_, ?_, s.clk + 1, 4, ?_, ?_⟩ <;> (simp -implicitDefEqProofs (maxSteps := 1000000) only [↓zD, zU, Nat.zero_mul, Nat.reduceMul, List.length_map, Tk.nm.injEq, Tk.cell.injEq, false_and, and_false, Nat.le_add_right, Nat.le_refl, ↓reduceIte, Bool.or_false, Bool.false_or, Bool.and_true, Bool.true_and, Bool.false_and, Bool.true_or, Bool.or_true, Option.isNone_none, Option.isNone_some, List.any_cons, List.any_nil, Bool.and_false, Nat.reduceBEq, Nat.reduceLeDiff, Int.reduceLT, Int.reduceEq, Int.reduceLE, Int.reduceAdd, Int.reduceToNat, Int.reduceNeg, Int.cast_ofNat_Int, Nat.reduceLT, List.drop_succ_cons, List.take_succ_cons, List.singleton_append, Nat.zero_add, List.set_cons_zero, List.set_cons_succ, List.drop_nil, List.take_nil, Option.map_some, Option.map_none, Option.getD_some, Option.getD_none, Option.bind_some, List.cons_append, List.nil_append, List.append_nil, List.map_cons, List.map_nil, List.range_zero, List.take_zero, List.flatten_nil, List.filter_nil, List.length_nil, List.length_cons, List.drop_zero, List.not_mem_nil, List.mem_cons, Bool.true_eq_false, Bool.false_eq_true, Nat.reduceEqDiff, Nat.reduceAdd, List.getElem?_toArray, List.toList_toArray, List.getElem?_cons_zero, List.getElem?_cons_succ, decide_eq_true_eq, beq_self_eq_true, beq_true, beq_false, decide_true, decide_false, Bool.not_true, Bool.not_false, true_and, and_true, or_false, false_or, Bool.and_eq_true, reduceCtorEq, not_false_eq_true, cat_u, lit_strL, List.append_assoc, boxO, zeroX_at, T34, P34, T24, P24, T23, P23, T22, P22, fa34_0, fa34_1, fa34_2, fa34_3, fa34_4, fa34_5, fa34_6, fa34_7, fa34_17, fa34_18, P3, P9, U3, U9, U37, U24, U22, U23, T9, T3, T37, len_txt, pc_t, h0, h2, h4, h8, ho, List.length_append] <;> first | rfl | omega))
  | (refine ⟨?_, ?_, ?_, ?_, c, k, ?_, ?_⟩ <;> (simp -implicitDefEqProofs (maxSteps := 1000000) only [↓zD, zU, Nat.zero_mul, Nat.reduceMul, List.length_map, Tk.nm.injEq, Tk.cell.injEq, false_and, and_false, Nat.le_add_right, Nat.le_refl, ↓reduceIte, Bool.or_false, Bool.false_or, Bool.and_true, Bool.true_and, Bool.false_and, Bool.true_or, Bool.or_true, Option.isNone_none, Option.isNone_some, List.any_cons, List.any_nil, Bool.and_false, Nat.reduceBEq, Nat.reduceLeDiff, Int.reduceLT, Int.reduceEq, Int.reduceLE, Int.reduceAdd, Int.reduceToNat, Int.reduceNeg, Int.cast_ofNat_Int, Nat.reduceLT, List.drop_succ_cons, List.take_succ_cons, List.singleton_append, Nat.zero_add, List.set_cons_zero, List.set_cons_succ, List.drop_nil, List.take_nil, Option.map_some, Option.map_none, Option.getD_some, Option.getD_none, Option.bind_some, List.cons_append, List.nil_append, List.append_nil, List.map_cons, List.map_nil, List.range_zero, List.take_zero, List.flatten_nil, List.filter_nil, List.length_nil, List.length_cons, List.drop_zero, List.not_mem_nil, List.mem_cons, Bool.true_eq_false, Bool.false_eq_true, Nat.reduceEqDiff, Nat.reduceAdd, List.getElem?_toArray, List.toList_toArray, List.getElem?_cons_zero, List.getElem?_cons_succ, decide_eq_true_eq, beq_self_eq_true, beq_true, beq_false, decide_true, decide_false, Bool.not_true, Bool.not_false, true_and, and_true, or_false, false_or, Bool.and_eq_true, reduceCtorEq, not_false_eq_true, cat_u, lit_strL, List.append_assoc, boxO, zeroX_at, T34, P34, T24, P24, T23, P23, T22, P22, fa34_0, fa34_1, fa34_2, fa34_3, fa34_4, fa34_5, fa34_6, fa34_7, fa34_17, fa34_18, P3, P9, U3, U9, U37, U24, U22, U23, T9, T3, T37, len_txt, pc_t, h0, h2, h4, h8, ho, List.length_append] <;> first | rfl | omega))
end
end Go.Proofs.YtfndkemgjhajnaaDoor
namespace Go.Proofs.YtfndkemgjhajnaaDoor
open Go Go.Pe Go.Tab
set_option linter.unusedSectionVars false

theorem nilX_ptr (r o : Nat) : nilX (.ptr r o) = out (.ptr r o) := rfl
/-- What a teller holds of lines. -/
def LnX (y0 : X) (L0 : List (List UInt8)) : Prop := (y0 = .nil ∧ L0 = []) ∨ y0 = .own (.cell 0 1) 9 1 (txC L0) L0.length
theorem LnX.y {y0 : X} {L0 : List (List UInt8)} (h : LnX y0 L0) : y0 = .nil ∨ ∃ cs n, y0 = .own (.cell 0 1) 9 1 cs n := by
  rcases h with ⟨h, _⟩ | h
  · exact .inl h
  · exact .inr ⟨_, _, h⟩
theorem rep_blanks (n : Nat) : Lib.repeatL [32, 32] n = blanks n := by
  induction n with
  | zero => rfl
  | succ n ih => rw [blanks_succ, ← ih]; rfl
section
variable (op : Int) (tb ix : List UInt8) (cols : List Cl) (kids : List Pn) (terms lk rk : List Tm) (r : Nat → C) (est cost : Int) (counts : List Int) (deep : Nat) (y0 : X) (L L0 : List (List UInt8)) (rows : List UInt8)
def NSt2 (s : S) : Prop := NSt op tb ix cols kids terms lk rk r est cost counts deep y0 L s ∧ s.fr 9 = xstr (strL rows)
variable (hci : ∀ n ∈ counts, I64 n) (hy : LnX y0 L0)
include hci hy
set_option maxRecDepth 100000 in
theorem node6 (s : S) (hs : NSt op tb ix cols kids terms lk rk r est cost counts deep y0 L s) : WC Tryd.prog pr (heads 2 (tails 8 (Tryd.f20.body.getD Code.skip))) s (okR (NSt2 op tb ix cols kids terms lk rk r est cost counts deep y0 L (rowsL counts L0.length))) := by
  obtain ⟨h0, h2, h4, ho, c, k, hck, h8⟩ := hs
  have hold : Old s.clk (.nm c k 0) := by rw [Z68]; exact hck
  rcases Nat.lt_or_ge L0.length counts.length with ci0 | ci0
  have g1 : decide ((L0.length : Int) < (counts.length : Int)) = true := decide_eq_true (by omega)
  have hrl : rowsL counts L0.length = Lib.itoa counts[L0.length] := by unfold rowsL; rw [List.getElem?_eq_getElem ci0]
  have x1 := fun K => numText_k counts[L0.length] K (small_of (hci _ (List.getElem_mem ci0)))
  have x2 := ia_in counts L0.length ci0
  have x3 := pc_in counts L0.length ci0
  rotate_left
  have g1 : decide ((L0.length : Int) < (counts.length : Int)) = false := decide_eq_false (by omega)
  have hrl : rowsL counts L0.length = [45] := by unfold rowsL; rw [List.getElem?_eq_none ci0]
  have x1 : 77 ≤ 77 := Nat.le_refl _
  have x2 : 77 ≤ 77 := Nat.le_refl _
  have x3 : 77 ≤ 77 := Nat.le_refl _
  rotate_left
  all_goals rw [hrl]
  all_goals rcases hy with ⟨rfl, rfl⟩ | rfl
  all_goals try simp only [List.length_nil, Int.cast_ofNat_Int, List.drop_zero] at g1
  all_goals try simp only [List.length_nil, Int.cast_ofNat_Int, List.drop_zero] at x1
  all_goals try simp only [List.length_nil, Int.cast_ofNat_Int, List.drop_zero] at x2
  all_goals try simp only [List.length_nil, Int.cast_ofNat_Int, List.drop_zero] at x3
  all_goals simp -implicitDefEqProofs (maxSteps := 1000000) only [heads, tails, Tryd.f20, ↓zD, zU, Nat.zero_mul, Nat.reduceMul, List.length_map, Tk.nm.injEq, Tk.cell.injEq, false_and, and_false, Nat.le_add_right, Nat.le_refl, ↓reduceIte, Bool.or_false, Bool.false_or, Bool.and_true, Bool.true_and, Bool.false_and, Bool.true_or, Bool.or_true, Option.isNone_none, Option.isNone_some, List.any_cons, List.any_nil, Bool.and_false, Nat.reduceBEq, Nat.reduceLeDiff, Int.reduceLT, Int.reduceEq, Int.reduceLE, Int.reduceAdd, Int.reduceToNat, Int.reduceNeg, Int.cast_ofNat_Int, Nat.reduceLT, List.drop_succ_cons, List.take_succ_cons, List.singleton_append, Nat.zero_add, List.set_cons_zero, List.set_cons_succ, List.drop_nil, List.take_nil, Option.map_some, Option.map_none, Option.getD_some, Option.getD_none, Option.bind_some, List.cons_append, List.nil_append, List.append_nil, List.map_cons, List.map_nil, List.range_zero, List.take_zero, List.flatten_nil, List.filter_nil, List.length_nil, List.length_cons, List.drop_zero, List.not_mem_nil, List.mem_cons, Bool.true_eq_false, Bool.false_eq_true, Nat.reduceEqDiff, Nat.reduceAdd, List.getElem?_toArray, List.toList_toArray, List.getElem?_cons_zero, List.getElem?_cons_succ, decide_eq_true_eq, beq_self_eq_true, beq_true, beq_false, decide_true, decide_false, Bool.not_true, Bool.not_false, true_and, and_true, or_false, false_or, Bool.and_eq_true, reduceCtorEq, not_false_eq_true, cat_u, lit_strL, List.append_assoc, boxO, zeroX_at, T34, P34, T24, P24, T23, P23, T22, P22, fa34_0, fa34_1, fa34_2, fa34_3, fa34_4, fa34_5, fa34_6, fa34_7, fa34_17, fa34_18, P3, P9, U3, U9, U37, U24, U22, U23, T9, T3, T37, len_txt, pc_t, tails, h0, h2, h4, h8, ho, nilX_ptr, T58, fa58_0, fa58_1, P37, P27, T27, U27, len_ints, g1, x1, x2, x3, pr_obj, obj16, call16, okR_at, old_add hold, old_new hold, hold]
  all_goals refine ⟨⟨?_, ?_, ?_, ?_, c, k, ?_, ?_⟩, ?_⟩ <;> (simp -implicitDefEqProofs (maxSteps := 1000000) only [↓zD, zU, Nat.zero_mul, Nat.reduceMul, List.length_map, Tk.nm.injEq, Tk.cell.injEq, false_and, and_false, Nat.le_add_right, Nat.le_refl, ↓reduceIte, Bool.or_false, Bool.false_or, Bool.and_true, Bool.true_and, Bool.false_and, Bool.true_or, Bool.or_true, Option.isNone_none, Option.isNone_some, List.any_cons, List.any_nil, Bool.and_false, Nat.reduceBEq, Nat.reduceLeDiff, Int.reduceLT, Int.reduceEq, Int.reduceLE, Int.reduceAdd, Int.reduceToNat, Int.reduceNeg, Int.cast_ofNat_Int, Nat.reduceLT, List.drop_succ_cons, List.take_succ_cons, List.singleton_append, Nat.zero_add, List.set_cons_zero, List.set_cons_succ, List.drop_nil, List.take_nil, Option.map_some, Option.map_none, Option.getD_some, Option.getD_none, Option.bind_some, List.cons_append, List.nil_append, List.append_nil, List.map_cons, List.map_nil, List.range_zero, List.take_zero, List.flatten_nil, List.filter_nil, List.length_nil, List.length_cons, List.drop_zero, List.not_mem_nil, List.mem_cons, Bool.true_eq_false, Bool.false_eq_true, Nat.reduceEqDiff, Nat.reduceAdd, List.getElem?_toArray, List.toList_toArray, List.getElem?_cons_zero, List.getElem?_cons_succ, decide_eq_true_eq, beq_self_eq_true, beq_true, beq_false, decide_true, decide_false, Bool.not_true, Bool.not_false, true_and, and_true, or_false, false_or, Bool.and_eq_true, reduceCtorEq, not_false_eq_true, cat_u, lit_strL, List.append_assoc, boxO, zeroX_at, T34, P34, T24, P24, T23, P23, T22, P22, fa34_0, fa34_1, fa34_2, fa34_3, fa34_4, fa34_5, fa34_6, fa34_7, fa34_17, fa34_18, P3, P9, U3, U9, U37, U24, U22, U23, T9, T3, T37, len_txt, pc_t, h0, h2, h4, h8, ho, List.length_append] <;> first | rfl | omega)
omit hci in
set_option maxRecDepth 100000 in
theorem node7 (s : S) (hs : NSt2 op tb ix cols kids terms lk rk r est cost counts deep y0 L rows s) (hl : L.length + 6 ≤ LIM) (he : I64 est) (hc : I64 cost) : WC Tryd.prog pr (heads 1 (tails 10 (Tryd.f20.body.getD Code.skip))) s (okR (NSt op tb ix cols kids terms lk rk r est cost counts deep y0 (L ++ [[101, 115, 116], Lib.itoa est, [99, 111, 115, 116], Lib.itoa cost, [114, 111, 119, 115], rows]))) := by
  obtain ⟨⟨h0, h2, h4, ho, c, k, hck, h8⟩, h9⟩ := hs
  have hold : Old s.clk (.nm c k 0) := by rw [Z68]; exact hck
  have x1 := fun K => numText_k est K (small_of he)
  have x2 := fun K => numText_k cost K (small_of hc)
  have hap := fun tk t t' a b c d e f => ap_s6 tk t t' L a b c d e f (n := L.length) hl
  rcases hy with ⟨rfl, rfl⟩ | rfl
  all_goals simp -implicitDefEqProofs (maxSteps := 1000000) only [heads, tails, Tryd.f20, ↓zD, zU, Nat.zero_mul, Nat.reduceMul, List.length_map, Tk.nm.injEq, Tk.cell.injEq, false_and, and_false, Nat.le_add_right, Nat.le_refl, ↓reduceIte, Bool.or_false, Bool.false_or, Bool.and_true, Bool.true_and, Bool.false_and, Bool.true_or, Bool.or_true, Option.isNone_none, Option.isNone_some, List.any_cons, List.any_nil, Bool.and_false, Nat.reduceBEq, Nat.reduceLeDiff, Int.reduceLT, Int.reduceEq, Int.reduceLE, Int.reduceAdd, Int.reduceToNat, Int.reduceNeg, Int.cast_ofNat_Int, Nat.reduceLT, List.drop_succ_cons, List.take_succ_cons, List.singleton_append, Nat.zero_add, List.set_cons_zero, List.set_cons_succ, List.drop_nil, List.take_nil, Option.map_some, Option.map_none, Option.getD_some, Option.getD_none, Option.bind_some, List.cons_append, List.nil_append, List.append_nil, List.map_cons, List.map_nil, List.range_zero, List.take_zero, List.flatten_nil, List.filter_nil, List.length_nil, List.length_cons, List.drop_zero, List.not_mem_nil, List.mem_cons, Bool.true_eq_false, Bool.false_eq_true, Nat.reduceEqDiff, Nat.reduceAdd, List.getElem?_toArray, List.toList_toArray, List.getElem?_cons_zero, List.getElem?_cons_succ, decide_eq_true_eq, beq_self_eq_true, beq_true, beq_false, decide_true, decide_false, Bool.not_true, Bool.not_false, true_and, and_true, or_false, false_or, Bool.and_eq_true, reduceCtorEq, not_false_eq_true, cat_u, lit_strL, List.append_assoc, boxO, zeroX_at, T34, P34, T24, P24, T23, P23, T22, P22, fa34_0, fa34_1, fa34_2, fa34_3, fa34_4, fa34_5, fa34_6, fa34_7, fa34_17, fa34_18, P3, P9, U3, U9, U37, U24, U22, U23, T9, T3, T37, len_txt, pc_t, tails, h0, h2, h4, h8, h9, ho, x1, x2, bs_s6, hap, pr_obj, obj16, call16, okR_at, old_add hold, old_new hold, hold]
  all_goals refine ⟨?_, ?_, ?_, ?_, s.clk, 9, ?_, ?_⟩ <;> (simp -implicitDefEqProofs (maxSteps := 1000000) only [↓zD, zU, Nat.zero_mul, Nat.reduceMul, List.length_map, Tk.nm.injEq, Tk.cell.injEq, false_and, and_false, Nat.le_add_right, Nat.le_refl, ↓reduceIte, Bool.or_false, Bool.false_or, Bool.and_true, Bool.true_and, Bool.false_and, Bool.true_or, Bool.or_true, Option.isNone_none, Option.isNone_some, List.any_cons, List.any_nil, Bool.and_false, Nat.reduceBEq, Nat.reduceLeDiff, Int.reduceLT, Int.reduceEq, Int.reduceLE, Int.reduceAdd, Int.reduceToNat, Int.reduceNeg, Int.cast_ofNat_Int, Nat.reduceLT, List.drop_succ_cons, List.take_succ_cons, List.singleton_append, Nat.zero_add, List.set_cons_zero, List.set_cons_succ, List.drop_nil, List.take_nil, Option.map_some, Option.map_none, Option.getD_some, Option.getD_none, Option.bind_some, List.cons_append, List.nil_append, List.append_nil, List.map_cons, List.map_nil, List.range_zero, List.take_zero, List.flatten_nil, List.filter_nil, List.length_nil, List.length_cons, List.drop_zero, List.not_mem_nil, List.mem_cons, Bool.true_eq_false, Bool.false_eq_true, Nat.reduceEqDiff, Nat.reduceAdd, List.getElem?_toArray, List.toList_toArray, List.getElem?_cons_zero, List.getElem?_cons_succ, decide_eq_true_eq, beq_self_eq_true, beq_true, beq_false, decide_true, decide_false, Bool.not_true, Bool.not_false, true_and, and_true, or_false, false_or, Bool.and_eq_true, reduceCtorEq, not_false_eq_true, cat_u, lit_strL, List.append_assoc, boxO, zeroX_at, T34, P34, T24, P24, T23, P23, T22, P22, fa34_0, fa34_1, fa34_2, fa34_3, fa34_4, fa34_5, fa34_6, fa34_7, fa34_17, fa34_18, P3, P9, U3, U9, U37, U24, U22, U23, T9, T3, T37, len_txt, pc_t, h0, h2, h4, h8, ho, List.length_append] <;> first | rfl | omega)
/-- Behind the line. -/
def NSt3 (s : S) : Prop := s.fr 0 = .ptr 0 0 ∧ s.fr 2 = .of (ci (deep : Nat)) ∧ s.fr 4 = .ptr 1 0 ∧ s.objs = [.var 58 [.of (intsC counts), .own (.cell 0 1) 9 1 (txC L) L.length], .var 34 [xint op, xstr (strL tb), xstr (strL ix), .of (colsC cols), .of (.sl (pnsC kids) kids.length), .of (termsC terms), .of (termsC lk), .of (termsC rk), .of (r 0), .of (r 1), .of (r 2), .of (r 3), .of (r 4), .of (r 5), .of (r 6), .of (r 7), .of (r 8), .of (r 9), .of (r 10), .of (r 11), .of (r 12), xint est, xint cost], .map (mapIS wordT)]
omit hci in
set_option maxRecDepth 100000 in
theorem node8 (ln : List UInt8) (s : S) (hs : NSt op tb ix cols kids terms lk rk r est cost counts deep y0 L s) (hj : Lib.join L [32] = ln) (hll : L.length ≤ 1048576) (hln : ln.length ≤ 35184372088832) (hd : deep ≤ 2097152) (hl : L0.length + 1 ≤ LIM) :
    WC Tryd.prog pr (heads 1 (tails 11 (Tryd.f20.body.getD Code.skip))) s (okR (NSt3 op tb ix cols kids terms lk rk r est cost counts deep (L0 ++ [blanks deep ++ ln]))) := by
  obtain ⟨h0, h2, h4, ho, c, k, hck, h8⟩ := hs
  have hold : Old s.clk (.nm c k 0) := by rw [Z68]; exact hck
  have hbl := blanks_len deep
  have hoc : Old s.clk (.cell 0 1) := trivial
  have x1 := fun K => join_k L [32] K (by omega) (by rw [hj]; omega)
  have x2 := fun K => rep_k [32, 32] deep K (by omega) (by simp only [List.length_cons, List.length_nil]; omega)
  simp only [rep_blanks, hj] at x1 x2
  have hap := fun tk t t' a => ap_s1 tk t t' L0 a (n := L0.length) hl
  rcases hy with ⟨rfl, rfl⟩ | rfl
  all_goals simp -implicitDefEqProofs (maxSteps := 1000000) only [heads, tails, Tryd.f20, ↓zD, zU, Nat.zero_mul, Nat.reduceMul, List.length_map, Tk.nm.injEq, Tk.cell.injEq, false_and, and_false, Nat.le_add_right, Nat.le_refl, ↓reduceIte, Bool.or_false, Bool.false_or, Bool.and_true, Bool.true_and, Bool.false_and, Bool.true_or, Bool.or_true, Option.isNone_none, Option.isNone_some, List.any_cons, List.any_nil, Bool.and_false, Nat.reduceBEq, Nat.reduceLeDiff, Int.reduceLT, Int.reduceEq, Int.reduceLE, Int.reduceAdd, Int.reduceToNat, Int.reduceNeg, Int.cast_ofNat_Int, Nat.reduceLT, List.drop_succ_cons, List.take_succ_cons, List.singleton_append, Nat.zero_add, List.set_cons_zero, List.set_cons_succ, List.drop_nil, List.take_nil, Option.map_some, Option.map_none, Option.getD_some, Option.getD_none, Option.bind_some, List.cons_append, List.nil_append, List.append_nil, List.map_cons, List.map_nil, List.range_zero, List.take_zero, List.flatten_nil, List.filter_nil, List.length_nil, List.length_cons, List.drop_zero, List.not_mem_nil, List.mem_cons, Bool.true_eq_false, Bool.false_eq_true, Nat.reduceEqDiff, Nat.reduceAdd, List.getElem?_toArray, List.toList_toArray, List.getElem?_cons_zero, List.getElem?_cons_succ, decide_eq_true_eq, beq_self_eq_true, beq_true, beq_false, decide_true, decide_false, Bool.not_true, Bool.not_false, true_and, and_true, or_false, false_or, Bool.and_eq_true, reduceCtorEq, not_false_eq_true, cat_u, lit_strL, List.append_assoc, boxO, zeroX_at, T34, P34, T24, P24, T23, P23, T22, P22, fa34_0, fa34_1, fa34_2, fa34_3, fa34_4, fa34_5, fa34_6, fa34_7, fa34_17, fa34_18, P3, P9, U3, U9, U37, U24, U22, U23, T9, T3, T37, len_txt, pc_t, tails, h0, h2, h4, h8, ho, WS_st, nilX_ptr, T58, fa58_0, fa58_1, P37, x1, x2, bs_s1, hap, ap_s1n, pr_obj, obj26, call26, obj41, call41, okR_at, old_add hold, old_new hold, hold, old_add hoc, old_new hoc, hoc]
  all_goals refine ⟨by ((try simp only [List.length_append, List.length_cons, List.length_nil, SLIM]); omega), ?_⟩
  all_goals refine ⟨?_, ?_, ?_, ?_⟩ <;> (simp -implicitDefEqProofs (maxSteps := 1000000) only [↓zD, zU, Nat.zero_mul, Nat.reduceMul, List.length_map, Tk.nm.injEq, Tk.cell.injEq, false_and, and_false, Nat.le_add_right, Nat.le_refl, ↓reduceIte, Bool.or_false, Bool.false_or, Bool.and_true, Bool.true_and, Bool.false_and, Bool.true_or, Bool.or_true, Option.isNone_none, Option.isNone_some, List.any_cons, List.any_nil, Bool.and_false, Nat.reduceBEq, Nat.reduceLeDiff, Int.reduceLT, Int.reduceEq, Int.reduceLE, Int.reduceAdd, Int.reduceToNat, Int.reduceNeg, Int.cast_ofNat_Int, Nat.reduceLT, List.drop_succ_cons, List.take_succ_cons, List.singleton_append, Nat.zero_add, List.set_cons_zero, List.set_cons_succ, List.drop_nil, List.take_nil, Option.map_some, Option.map_none, Option.getD_some, Option.getD_none, Option.bind_some, List.cons_append, List.nil_append, List.append_nil, List.map_cons, List.map_nil, List.range_zero, List.take_zero, List.flatten_nil, List.filter_nil, List.length_nil, List.length_cons, List.drop_zero, List.not_mem_nil, List.mem_cons, Bool.true_eq_false, Bool.false_eq_true, Nat.reduceEqDiff, Nat.reduceAdd, List.getElem?_toArray, List.toList_toArray, List.getElem?_cons_zero, List.getElem?_cons_succ, decide_eq_true_eq, beq_self_eq_true, beq_true, beq_false, decide_true, decide_false, Bool.not_true, Bool.not_false, true_and, and_true, or_false, false_or, Bool.and_eq_true, reduceCtorEq, not_false_eq_true, cat_u, lit_strL, List.append_assoc, boxO, zeroX_at, T34, P34, T24, P24, T23, P23, T22, P22, fa34_0, fa34_1, fa34_2, fa34_3, fa34_4, fa34_5, fa34_6, fa34_7, fa34_17, fa34_18, P3, P9, U3, U9, U37, U24, U22, U23, T9, T3, T37, len_txt, pc_t, h0, h2, h4, h8, ho, List.length_append, true_and, and_self, if_true, Nat.lt_irrefl, Nat.zero_lt_one, Nat.le_refl] <;> first | rfl | omega | trace_state)
end
end Go.Proofs.YtfndkemgjhajnaaDoor
namespace Go.Proofs.YtfndkemgjhajnaaDoor
open Go Go.Pe Go.Tab
set_option linter.unusedSectionVars false

theorem range1 : List.range 1 = [0] := rfl
theorem flat1 : ([[]] : List (List Nat)).flatten = [] := rfl
/-- A teller's object. -/
def tellO (counts : List Int) (y : X) : Ob := .var 58 [.of (intsC counts), y]
def lnO (W : List (List UInt8)) : X := .own (.cell 0 1) 9 1 (txC W) W.length
section
variable (op : Int) (tb ix : List UInt8) (cols : List Cl) (kids : List Pn) (terms lk rk : List Tm) (r : Nat → C) (est cost : Int) (counts : List Int) (deep : Nat) (L1 : List (List UInt8))
set_option maxRecDepth 100000 in
theorem node9 (s : S) (hs : NSt3 op tb ix cols kids terms lk rk r est cost counts deep L1 s) (hkl : kids.length ≤ 1048576) (hd : deep ≤ 2097152)
    (ih : ∀ k (h : k < kids.length) (W : List (List UInt8)), W = L1 ++ undersF counts (deep + 1) L1.length (kids.take k) →
      Gives Tryd.prog pr 20 [.ptr 0 0, .agg ((pnC kids[k]).map .of), .of (ci ((deep + 1 : Nat)))] [.var 58 [.of (intsC counts), .own (.cell 0 1) 9 1 (txC W) W.length]] ⟨false, [], [tellO counts (lnO (W ++ underF counts (deep + 1) W.length kids[k]))]⟩) :
    WC Tryd.prog pr (tails 12 (Tryd.f20.body.getD Code.skip)) s (endQ Tryd.prog 20 1 ⟨false, [], [tellO counts (lnO (L1 ++ undersF counts (deep + 1) L1.length kids))]⟩) := by
  obtain ⟨h0, h2, h4, ho⟩ := hs
  have hw0 := wrapS deep (by omega)
  simp -implicitDefEqProofs (maxSteps := 1000000) only [heads, tails, Tryd.f20, ↓zD, zU, Nat.zero_mul, Nat.reduceMul, List.length_map, Tk.nm.injEq, Tk.cell.injEq, false_and, and_false, Nat.le_add_right, Nat.le_refl, ↓reduceIte, Bool.or_false, Bool.false_or, Bool.and_true, Bool.true_and, Bool.false_and, Bool.true_or, Bool.or_true, Option.isNone_none, Option.isNone_some, List.any_cons, List.any_nil, Bool.and_false, Nat.reduceBEq, Nat.reduceLeDiff, Int.reduceLT, Int.reduceEq, Int.reduceLE, Int.reduceAdd, Int.reduceToNat, Int.reduceNeg, Int.cast_ofNat_Int, Nat.reduceLT, List.drop_succ_cons, List.take_succ_cons, List.singleton_append, Nat.zero_add, List.set_cons_zero, List.set_cons_succ, List.drop_nil, List.take_nil, Option.map_some, Option.map_none, Option.getD_some, Option.getD_none, Option.bind_some, List.cons_append, List.nil_append, List.append_nil, List.map_cons, List.map_nil, List.range_zero, List.take_zero, List.flatten_nil, List.filter_nil, List.length_nil, List.length_cons, List.drop_zero, List.not_mem_nil, List.mem_cons, Bool.true_eq_false, Bool.false_eq_true, Nat.reduceEqDiff, Nat.reduceAdd, List.getElem?_toArray, List.toList_toArray, List.getElem?_cons_zero, List.getElem?_cons_succ, decide_eq_true_eq, beq_self_eq_true, beq_true, beq_false, decide_true, decide_false, Bool.not_true, Bool.not_false, true_and, and_true, or_false, false_or, Bool.and_eq_true, reduceCtorEq, not_false_eq_true, cat_u, lit_strL, List.append_assoc, boxO, zeroX_at, T34, P34, T24, P24, T23, P23, T22, P22, fa34_0, fa34_1, fa34_2, fa34_3, fa34_4, fa34_5, fa34_6, fa34_7, fa34_17, fa34_18, P3, P9, U3, U9, U37, U24, U22, U23, T9, T3, T37, len_txt, pc_t, tails, h0, h2, h4, ho]
  refine WC_inv _ _ (fun m s => ∃ k : Nat, k ≤ kids.length ∧ m = kids.length - k ∧ s.fr 0 = .ptr 0 0 ∧ s.fr 2 = .of (ci (deep : Nat)) ∧ s.fr 109 = .of (.sl (pnsC kids) kids.length) ∧ s.fr 110 = xint kids.length ∧ s.fr 111 = xint k ∧
    ∃ os W, W = L1 ++ undersF counts (deep + 1) L1.length (kids.take k) ∧ s.objs = (.var 58 [.of (intsC counts), .own (.cell 0 1) 9 1 (txC W) W.length]) :: os) ?_ kids.length _ ?_
  · rintro m s ⟨k, hk1, rfl, h0, h2, h109, h110, h111, os, W, hW, ho⟩
    have hw1 := wrapS k (by omega)
    by_cases c1 : k < kids.length
    · have d1 : decide ((k : Int) < (kids.length : Int)) = true := decide_eq_true (by omega)
      have hcall := fun K => Gives.k (ih k c1 W hW) K
      have hp := pc_pn kids k c1
      have htk := undersF_take counts (deep + 1) L1.length kids k c1
      have hWl : W.length = L1.length + nodesNs (kids.take k) := by rw [hW, List.length_append, undersF_len]
      rw [hWl] at hcall
      generalize underF counts (deep + 1) (L1.length + nodesNs (kids.take k)) kids[k] = U at hcall htk
      rw [← hWl] at hcall
      generalize kids[k] = x at hcall hp
      obtain ⟨op', tb', ix', cols', kids', terms', lk', rk', r', est', cost'⟩ := x
      simp only [pnC] at hp
      simp only [pnC, List.map_cons, List.map_nil] at hcall
      unfold tellO lnO at hcall
      simp -implicitDefEqProofs (maxSteps := 1000000) only [↓zD, zU, Nat.zero_mul, Nat.reduceMul, List.length_map, Tk.nm.injEq, Tk.cell.injEq, false_and, and_false, Nat.le_add_right, Nat.le_refl, ↓reduceIte, Bool.or_false, Bool.false_or, Bool.and_true, Bool.true_and, Bool.false_and, Bool.true_or, Bool.or_true, Option.isNone_none, Option.isNone_some, List.any_cons, List.any_nil, Bool.and_false, Nat.reduceBEq, Nat.reduceLeDiff, Int.reduceLT, Int.reduceEq, Int.reduceLE, Int.reduceAdd, Int.reduceToNat, Int.reduceNeg, Int.cast_ofNat_Int, Nat.reduceLT, List.drop_succ_cons, List.take_succ_cons, List.singleton_append, Nat.zero_add, List.set_cons_zero, List.set_cons_succ, List.drop_nil, List.take_nil, Option.map_some, Option.map_none, Option.getD_some, Option.getD_none, Option.bind_some, List.cons_append, List.nil_append, List.append_nil, List.map_cons, List.map_nil, List.range_zero, List.take_zero, List.flatten_nil, List.filter_nil, List.length_nil, List.length_cons, List.drop_zero, List.not_mem_nil, List.mem_cons, Bool.true_eq_false, Bool.false_eq_true, Nat.reduceEqDiff, Nat.reduceAdd, List.getElem?_toArray, List.toList_toArray, List.getElem?_cons_zero, List.getElem?_cons_succ, decide_eq_true_eq, beq_self_eq_true, beq_true, beq_false, decide_true, decide_false, Bool.not_true, Bool.not_false, true_and, and_true, or_false, false_or, Bool.and_eq_true, reduceCtorEq, not_false_eq_true, cat_u, lit_strL, List.append_assoc, h0, h2, h109, h110, h111, ho, boxO, zeroX_at, T34, P34, T24, P24, T23, P23, T22, P22, fa34_0, fa34_1, fa34_2, fa34_3, fa34_4, fa34_5, fa34_6, fa34_7, fa34_17, fa34_18, P3, P9, U3, U9, U37, U24, U22, U23, T9, T3, T37, len_txt, pc_t, d1, hw0, hw1, ia_pn kids k c1, hp, rd_agg23, hcall, pr_obj, pr_tk, obj20, tk20, call20]
      refine ⟨_, ?_, k + 1, by omega, rfl, rfl, _, W ++ U, by rw [hW, htk, List.append_assoc], rfl⟩
      omega
    · have d1 : decide ((k : Int) < (kids.length : Int)) = false := decide_eq_false (by omega)
      rw [List.take_of_length_le (by omega)] at hW
      simp -implicitDefEqProofs (maxSteps := 1000000) only [↓zD, zU, Nat.zero_mul, Nat.reduceMul, List.length_map, Tk.nm.injEq, Tk.cell.injEq, false_and, and_false, Nat.le_add_right, Nat.le_refl, ↓reduceIte, Bool.or_false, Bool.false_or, Bool.and_true, Bool.true_and, Bool.false_and, Bool.true_or, Bool.or_true, Option.isNone_none, Option.isNone_some, List.any_cons, List.any_nil, Bool.and_false, Nat.reduceBEq, Nat.reduceLeDiff, Int.reduceLT, Int.reduceEq, Int.reduceLE, Int.reduceAdd, Int.reduceToNat, Int.reduceNeg, Int.cast_ofNat_Int, Nat.reduceLT, List.drop_succ_cons, List.take_succ_cons, List.singleton_append, Nat.zero_add, List.set_cons_zero, List.set_cons_succ, List.drop_nil, List.take_nil, Option.map_some, Option.map_none, Option.getD_some, Option.getD_none, Option.bind_some, List.cons_append, List.nil_append, List.append_nil, List.map_cons, List.map_nil, List.range_zero, List.take_zero, List.flatten_nil, List.filter_nil, List.length_nil, List.length_cons, List.drop_zero, List.not_mem_nil, List.mem_cons, Bool.true_eq_false, Bool.false_eq_true, Nat.reduceEqDiff, Nat.reduceAdd, List.getElem?_toArray, List.toList_toArray, List.getElem?_cons_zero, List.getElem?_cons_succ, decide_eq_true_eq, beq_self_eq_true, beq_true, beq_false, decide_true, decide_false, Bool.not_true, Bool.not_false, true_and, and_true, or_false, false_or, Bool.and_eq_true, reduceCtorEq, not_false_eq_true, cat_u, lit_strL, List.append_assoc, h0, h2, h109, h110, h111, ho, boxO, zeroX_at, T34, P34, T24, P24, T23, P23, T22, P22, fa34_0, fa34_1, fa34_2, fa34_3, fa34_4, fa34_5, fa34_6, fa34_7, fa34_17, fa34_18, P3, P9, U3, U9, U37, U24, U22, U23, T9, T3, T37, len_txt, pc_t, d1, range1, flat1, rv20, Tryd.f20]
      subst hW
      rfl
  · refine ⟨0, by omega, by omega, ?_, ?_, ?_, ?_, ?_, [.var 34 [xint op, xstr (strL tb), xstr (strL ix), .of (colsC cols), .of (.sl (pnsC kids) kids.length), .of (termsC terms), .of (termsC lk), .of (termsC rk), .of (r 0), .of (r 1), .of (r 2), .of (r 3), .of (r 4), .of (r 5), .of (r 6), .of (r 7), .of (r 8), .of (r 9), .of (r 10), .of (r 11), .of (r 12), xint est, xint cost], .map (mapIS wordT)], L1, by simp [undersF], ?_⟩
    · simp -implicitDefEqProofs (maxSteps := 1000000) only [↓zD, zU, Nat.zero_mul, Nat.reduceMul, List.length_map, Tk.nm.injEq, Tk.cell.injEq, false_and, and_false, Nat.le_add_right, Nat.le_refl, ↓reduceIte, Bool.or_false, Bool.false_or, Bool.and_true, Bool.true_and, Bool.false_and, Bool.true_or, Bool.or_true, Option.isNone_none, Option.isNone_some, List.any_cons, List.any_nil, Bool.and_false, Nat.reduceBEq, Nat.reduceLeDiff, Int.reduceLT, Int.reduceEq, Int.reduceLE, Int.reduceAdd, Int.reduceToNat, Int.reduceNeg, Int.cast_ofNat_Int, Nat.reduceLT, List.drop_succ_cons, List.take_succ_cons, List.singleton_append, Nat.zero_add, List.set_cons_zero, List.set_cons_succ, List.drop_nil, List.take_nil, Option.map_some, Option.map_none, Option.getD_some, Option.getD_none, Option.bind_some, List.cons_append, List.nil_append, List.append_nil, List.map_cons, List.map_nil, List.range_zero, List.take_zero, List.flatten_nil, List.filter_nil, List.length_nil, List.length_cons, List.drop_zero, List.not_mem_nil, List.mem_cons, Bool.true_eq_false, Bool.false_eq_true, Nat.reduceEqDiff, Nat.reduceAdd, List.getElem?_toArray, List.toList_toArray, List.getElem?_cons_zero, List.getElem?_cons_succ, decide_eq_true_eq, beq_self_eq_true, beq_true, beq_false, decide_true, decide_false, Bool.not_true, Bool.not_false, true_and, and_true, or_false, false_or, Bool.and_eq_true, reduceCtorEq, not_false_eq_true, cat_u, lit_strL, List.append_assoc, boxO, zeroX_at, T34, P34, T24, P24, T23, P23, T22, P22, fa34_0, fa34_1, fa34_2, fa34_3, fa34_4, fa34_5, fa34_6, fa34_7, fa34_17, fa34_18, P3, P9, U3, U9, U37, U24, U22, U23, T9, T3, T37, len_txt, pc_t, h0]
    · simp -implicitDefEqProofs (maxSteps := 1000000) only [↓zD, zU, Nat.zero_mul, Nat.reduceMul, List.length_map, Tk.nm.injEq, Tk.cell.injEq, false_and, and_false, Nat.le_add_right, Nat.le_refl, ↓reduceIte, Bool.or_false, Bool.false_or, Bool.and_true, Bool.true_and, Bool.false_and, Bool.true_or, Bool.or_true, Option.isNone_none, Option.isNone_some, List.any_cons, List.any_nil, Bool.and_false, Nat.reduceBEq, Nat.reduceLeDiff, Int.reduceLT, Int.reduceEq, Int.reduceLE, Int.reduceAdd, Int.reduceToNat, Int.reduceNeg, Int.cast_ofNat_Int, Nat.reduceLT, List.drop_succ_cons, List.take_succ_cons, List.singleton_append, Nat.zero_add, List.set_cons_zero, List.set_cons_succ, List.drop_nil, List.take_nil, Option.map_some, Option.map_none, Option.getD_some, Option.getD_none, Option.bind_some, List.cons_append, List.nil_append, List.append_nil, List.map_cons, List.map_nil, List.range_zero, List.take_zero, List.flatten_nil, List.filter_nil, List.length_nil, List.length_cons, List.drop_zero, List.not_mem_nil, List.mem_cons, Bool.true_eq_false, Bool.false_eq_true, Nat.reduceEqDiff, Nat.reduceAdd, List.getElem?_toArray, List.toList_toArray, List.getElem?_cons_zero, List.getElem?_cons_succ, decide_eq_true_eq, beq_self_eq_true, beq_true, beq_false, decide_true, decide_false, Bool.not_true, Bool.not_false, true_and, and_true, or_false, false_or, Bool.and_eq_true, reduceCtorEq, not_false_eq_true, cat_u, lit_strL, List.append_assoc, boxO, zeroX_at, T34, P34, T24, P24, T23, P23, T22, P22, fa34_0, fa34_1, fa34_2, fa34_3, fa34_4, fa34_5, fa34_6, fa34_7, fa34_17, fa34_18, P3, P9, U3, U9, U37, U24, U22, U23, T9, T3, T37, len_txt, pc_t, h2]
    · simp -implicitDefEqProofs (maxSteps := 1000000) only [↓zD, zU, Nat.zero_mul, Nat.reduceMul, List.length_map, Tk.nm.injEq, Tk.cell.injEq, false_and, and_false, Nat.le_add_right, Nat.le_refl, ↓reduceIte, Bool.or_false, Bool.false_or, Bool.and_true, Bool.true_and, Bool.false_and, Bool.true_or, Bool.or_true, Option.isNone_none, Option.isNone_some, List.any_cons, List.any_nil, Bool.and_false, Nat.reduceBEq, Nat.reduceLeDiff, Int.reduceLT, Int.reduceEq, Int.reduceLE, Int.reduceAdd, Int.reduceToNat, Int.reduceNeg, Int.cast_ofNat_Int, Nat.reduceLT, List.drop_succ_cons, List.take_succ_cons, List.singleton_append, Nat.zero_add, List.set_cons_zero, List.set_cons_succ, List.drop_nil, List.take_nil, Option.map_some, Option.map_none, Option.getD_some, Option.getD_none, Option.bind_some, List.cons_append, List.nil_append, List.append_nil, List.map_cons, List.map_nil, List.range_zero, List.take_zero, List.flatten_nil, List.filter_nil, List.length_nil, List.length_cons, List.drop_zero, List.not_mem_nil, List.mem_cons, Bool.true_eq_false, Bool.false_eq_true, Nat.reduceEqDiff, Nat.reduceAdd, List.getElem?_toArray, List.toList_toArray, List.getElem?_cons_zero, List.getElem?_cons_succ, decide_eq_true_eq, beq_self_eq_true, beq_true, beq_false, decide_true, decide_false, Bool.not_true, Bool.not_false, true_and, and_true, or_false, false_or, Bool.and_eq_true, reduceCtorEq, not_false_eq_true, cat_u, lit_strL, List.append_assoc, boxO, zeroX_at, T34, P34, T24, P24, T23, P23, T22, P22, fa34_0, fa34_1, fa34_2, fa34_3, fa34_4, fa34_5, fa34_6, fa34_7, fa34_17, fa34_18, P3, P9, U3, U9, U37, U24, U22, U23, T9, T3, T37, len_txt, pc_t]
    · simp -implicitDefEqProofs (maxSteps := 1000000) only [↓zD, zU, Nat.zero_mul, Nat.reduceMul, List.length_map, Tk.nm.injEq, Tk.cell.injEq, false_and, and_false, Nat.le_add_right, Nat.le_refl, ↓reduceIte, Bool.or_false, Bool.false_or, Bool.and_true, Bool.true_and, Bool.false_and, Bool.true_or, Bool.or_true, Option.isNone_none, Option.isNone_some, List.any_cons, List.any_nil, Bool.and_false, Nat.reduceBEq, Nat.reduceLeDiff, Int.reduceLT, Int.reduceEq, Int.reduceLE, Int.reduceAdd, Int.reduceToNat, Int.reduceNeg, Int.cast_ofNat_Int, Nat.reduceLT, List.drop_succ_cons, List.take_succ_cons, List.singleton_append, Nat.zero_add, List.set_cons_zero, List.set_cons_succ, List.drop_nil, List.take_nil, Option.map_some, Option.map_none, Option.getD_some, Option.getD_none, Option.bind_some, List.cons_append, List.nil_append, List.append_nil, List.map_cons, List.map_nil, List.range_zero, List.take_zero, List.flatten_nil, List.filter_nil, List.length_nil, List.length_cons, List.drop_zero, List.not_mem_nil, List.mem_cons, Bool.true_eq_false, Bool.false_eq_true, Nat.reduceEqDiff, Nat.reduceAdd, List.getElem?_toArray, List.toList_toArray, List.getElem?_cons_zero, List.getElem?_cons_succ, decide_eq_true_eq, beq_self_eq_true, beq_true, beq_false, decide_true, decide_false, Bool.not_true, Bool.not_false, true_and, and_true, or_false, false_or, Bool.and_eq_true, reduceCtorEq, not_false_eq_true, cat_u, lit_strL, List.append_assoc, boxO, zeroX_at, T34, P34, T24, P24, T23, P23, T22, P22, fa34_0, fa34_1, fa34_2, fa34_3, fa34_4, fa34_5, fa34_6, fa34_7, fa34_17, fa34_18, P3, P9, U3, U9, U37, U24, U22, U23, T9, T3, T37, len_txt, pc_t]
    · simp -implicitDefEqProofs (maxSteps := 1000000) only [↓zD, zU, Nat.zero_mul, Nat.reduceMul, List.length_map, Tk.nm.injEq, Tk.cell.injEq, false_and, and_false, Nat.le_add_right, Nat.le_refl, ↓reduceIte, Bool.or_false, Bool.false_or, Bool.and_true, Bool.true_and, Bool.false_and, Bool.true_or, Bool.or_true, Option.isNone_none, Option.isNone_some, List.any_cons, List.any_nil, Bool.and_false, Nat.reduceBEq, Nat.reduceLeDiff, Int.reduceLT, Int.reduceEq, Int.reduceLE, Int.reduceAdd, Int.reduceToNat, Int.reduceNeg, Int.cast_ofNat_Int, Nat.reduceLT, List.drop_succ_cons, List.take_succ_cons, List.singleton_append, Nat.zero_add, List.set_cons_zero, List.set_cons_succ, List.drop_nil, List.take_nil, Option.map_some, Option.map_none, Option.getD_some, Option.getD_none, Option.bind_some, List.cons_append, List.nil_append, List.append_nil, List.map_cons, List.map_nil, List.range_zero, List.take_zero, List.flatten_nil, List.filter_nil, List.length_nil, List.length_cons, List.drop_zero, List.not_mem_nil, List.mem_cons, Bool.true_eq_false, Bool.false_eq_true, Nat.reduceEqDiff, Nat.reduceAdd, List.getElem?_toArray, List.toList_toArray, List.getElem?_cons_zero, List.getElem?_cons_succ, decide_eq_true_eq, beq_self_eq_true, beq_true, beq_false, decide_true, decide_false, Bool.not_true, Bool.not_false, true_and, and_true, or_false, false_or, Bool.and_eq_true, reduceCtorEq, not_false_eq_true, cat_u, lit_strL, List.append_assoc, boxO, zeroX_at, T34, P34, T24, P24, T23, P23, T22, P22, fa34_0, fa34_1, fa34_2, fa34_3, fa34_4, fa34_5, fa34_6, fa34_7, fa34_17, fa34_18, P3, P9, U3, U9, U37, U24, U22, U23, T9, T3, T37, len_txt, pc_t] <;> rfl
    · simp -implicitDefEqProofs (maxSteps := 1000000) only [↓zD, zU, Nat.zero_mul, Nat.reduceMul, List.length_map, Tk.nm.injEq, Tk.cell.injEq, false_and, and_false, Nat.le_add_right, Nat.le_refl, ↓reduceIte, Bool.or_false, Bool.false_or, Bool.and_true, Bool.true_and, Bool.false_and, Bool.true_or, Bool.or_true, Option.isNone_none, Option.isNone_some, List.any_cons, List.any_nil, Bool.and_false, Nat.reduceBEq, Nat.reduceLeDiff, Int.reduceLT, Int.reduceEq, Int.reduceLE, Int.reduceAdd, Int.reduceToNat, Int.reduceNeg, Int.cast_ofNat_Int, Nat.reduceLT, List.drop_succ_cons, List.take_succ_cons, List.singleton_append, Nat.zero_add, List.set_cons_zero, List.set_cons_succ, List.drop_nil, List.take_nil, Option.map_some, Option.map_none, Option.getD_some, Option.getD_none, Option.bind_some, List.cons_append, List.nil_append, List.append_nil, List.map_cons, List.map_nil, List.range_zero, List.take_zero, List.flatten_nil, List.filter_nil, List.length_nil, List.length_cons, List.drop_zero, List.not_mem_nil, List.mem_cons, Bool.true_eq_false, Bool.false_eq_true, Nat.reduceEqDiff, Nat.reduceAdd, List.getElem?_toArray, List.toList_toArray, List.getElem?_cons_zero, List.getElem?_cons_succ, decide_eq_true_eq, beq_self_eq_true, beq_true, beq_false, decide_true, decide_false, Bool.not_true, Bool.not_false, true_and, and_true, or_false, false_or, Bool.and_eq_true, reduceCtorEq, not_false_eq_true, cat_u, lit_strL, List.append_assoc, boxO, zeroX_at, T34, P34, T24, P24, T23, P23, T22, P22, fa34_0, fa34_1, fa34_2, fa34_3, fa34_4, fa34_5, fa34_6, fa34_7, fa34_17, fa34_18, P3, P9, U3, U9, U37, U24, U22, U23, T9, T3, T37, len_txt, pc_t, ho] <;> rfl
theorem tt (a b n : Nat) (h : b + a = n) : ∀ c : Code, tails a (tails b c) = tails n c := by
  subst h
  induction b with
  | zero => intro c; rw [Nat.zero_add]; rfl
  | succ b ih =>
    intro c
    rw [Nat.succ_add]
    cases c with
    | seq x y => exact ih y
    | _ =>
      show tails a .skip = .skip
      cases a <;> rfl
theorem p_len (rows : List UInt8) : (p2 op tb).length ≤ 2 ∧ (p3 op tb ix).length ≤ 4 ∧ (p4 op tb ix kids lk rk).length ≤ 6 ∧ (p5 (.mk op tb ix cols kids terms lk rk r est cost)).length ≤ 7 := by
  have h2 : (p2 op tb).length ≤ 2 := by unfold p2 p1; split <;> (try simp only [List.length_append, List.length_cons, List.length_nil]) <;> omega
  have h3 : (p3 op tb ix).length ≤ 4 := by unfold p3; split <;> (try simp only [List.length_append, List.length_cons, List.length_nil]) <;> omega
  have h4 : (p4 op tb ix kids lk rk).length ≤ 6 := by unfold p4; split <;> (try simp only [List.length_append, List.length_cons, List.length_nil]) <;> omega
  exact ⟨h2, h3, h4, by unfold p5; simp only; split <;> (try simp only [List.length_append, List.length_cons, List.length_nil]) <;> omega⟩
theorem node_step (L0 : List (List UInt8)) (y0 : X) (hy : LnX y0 L0) (hw : pnWt (.mk op tb ix cols kids terms lk rk r est cost) ≤ 1048576) (hk : PnOk (.mk op tb ix cols kids terms lk rk r est cost)) (hci : ∀ n ∈ counts, I64 n) (hd : deep ≤ 2097152) (hL : L0.length ≤ 2097152)
    (ih : ∀ k (h : k < kids.length) (W : List (List UInt8)), W.length = L0.length + 1 + nodesNs (kids.take k) →
      Gives Tryd.prog pr 20 [.ptr 0 0, .agg ((pnC kids[k]).map .of), .of (ci ((deep + 1 : Nat)))] [tellO counts (lnO W)] ⟨false, [], [tellO counts (lnO (W ++ underF counts (deep + 1) W.length kids[k]))]⟩) :
    Gives Tryd.prog pr 20 [.ptr 0 0, (.agg [xint op, xstr (strL tb), xstr (strL ix), .of (colsC cols), .of (.sl (pnsC kids) kids.length), .of (termsC terms), .of (termsC lk), .of (termsC rk), .of (r 0), .of (r 1), .of (r 2), .of (r 3), .of (r 4), .of (r 5), .of (r 6), .of (r 7), .of (r 8), .of (r 9), .of (r 10), .of (r 11), .of (r 12), xint est, xint cost]), .of (ci (deep : Nat))] [tellO counts y0] ⟨false, [], [tellO counts (lnO (L0 ++ underF counts deep L0.length (.mk op tb ix cols kids terms lk rk r est cost)))]⟩ := by
  have hin := inner_ok op tb ix cols kids terms lk rk r est cost hw
  have hll := lineL_len (.mk op tb ix cols kids terms lk rk r est cost) (rowsL counts L0.length) hw hk (by have := rowsL_len counts hci L0.length; omega)
  obtain ⟨l2, l3, l4, l5⟩ := p_len op tb ix cols kids terms lk rk r est cost []
  simp only [pnWt] at hw
  simp only [PnOk] at hk
  obtain ⟨ho, he, hco, kt, kl, kr, kk⟩ := hk
  have hkl : kids.length ≤ 1048576 := by have := pnsWt_len kids; omega
  have xk := fun K => Gives.k (exkeys_call op tb ix cols kids terms lk rk r est cost (by omega) (by omega) (by omega) kl kr) K
  have xt := fun K => Gives.k (exterms_step op tb ix cols kids terms lk rk r est cost (innerC (.mk op tb ix cols kids terms lk rk r est cost)) hin (innerC_eq ..) (by omega) (by omega) kt) K
  have hlim : ∀ n, n ≤ 3000000 → n ≤ LIM := fun n hn => by unfold LIM; omega
  refine by_body rfl ok20 body20 ar20 rfl ?_
  refine WC_cut 4 (Tryd.f20.body.getD Code.skip) _ _ rfl (node1 op tb ix cols kids terms lk rk r est cost counts deep y0 hy.y) fun s1 h1 => ?_
  refine WC_cut 1 (tails 4 (Tryd.f20.body.getD Code.skip)) _ _ rfl (node2 op tb ix cols kids terms lk rk r est cost counts deep y0 (p1 op) hy.y s1 h1 (hlim _ (by simp [p1]))) fun s2 h2 => ?_
  rw [tt 1 4 5 rfl]
  refine WC_cut 1 (tails 5 (Tryd.f20.body.getD Code.skip)) _ _ rfl (node3 op tb ix cols kids terms lk rk r est cost counts deep y0 (p2 op tb) hy.y s2 h2 (hlim _ (by omega))) fun s3 h3 => ?_
  rw [tt 1 5 6 rfl]
  refine WC_cut 1 (tails 6 (Tryd.f20.body.getD Code.skip)) _ _ rfl (node4 op tb ix cols kids terms lk rk r est cost counts deep y0 (p3 op tb ix) hy.y s3 h3 (hlim _ (by omega)) xk) fun s4 h4 => ?_
  rw [tt 1 6 7 rfl]
  refine WC_cut 1 (tails 7 (Tryd.f20.body.getD Code.skip)) _ _ rfl (node5 op tb ix cols kids terms lk rk r est cost counts deep y0 (p4 op tb ix kids lk rk) hy.y s4 h4 (hlim _ (by omega)) xt) fun s5 h5 => ?_
  rw [tt 1 7 8 rfl]
  refine WC_cut 2 (tails 8 (Tryd.f20.body.getD Code.skip)) _ _ rfl (node6 op tb ix cols kids terms lk rk r est cost counts deep y0 (p5 (.mk op tb ix cols kids terms lk rk r est cost)) L0 hci hy s5 h5) fun s6 h6 => ?_
  rw [tt 2 8 10 rfl]
  refine WC_cut 1 (tails 10 (Tryd.f20.body.getD Code.skip)) _ _ rfl (node7 op tb ix cols kids terms lk rk r est cost counts deep y0 (p5 (.mk op tb ix cols kids terms lk rk r est cost)) L0 (rowsL counts L0.length) hy s6 h6 (hlim _ (by omega)) he hco) fun s7 h7 => ?_
  rw [tt 1 10 11 rfl]
  refine WC_cut 1 (tails 11 (Tryd.f20.body.getD Code.skip)) _ _ rfl (node8 op tb ix cols kids terms lk rk r est cost counts deep y0 (p6 (.mk op tb ix cols kids terms lk rk r est cost) (rowsL counts L0.length)) L0 hy (lineL (.mk op tb ix cols kids terms lk rk r est cost) (rowsL counts L0.length)) s7 h7 (join_p6 _ _) (by simp only [p6, List.length_append, List.length_cons, List.length_nil]; omega) hll hd (hlim _ (by omega))) fun s8 h8 => ?_
  rw [tt 1 11 12 rfl]
  have e : L0 ++ underF counts deep L0.length (.mk op tb ix cols kids terms lk rk r est cost) = (L0 ++ [blanks deep ++ lineL (.mk op tb ix cols kids terms lk rk r est cost) (rowsL counts L0.length)]) ++ undersF counts (deep + 1) (L0 ++ [blanks deep ++ lineL (.mk op tb ix cols kids terms lk rk r est cost) (rowsL counts L0.length)]).length kids := by
    rw [List.length_append, underF]
    simp
  rw [e]
  exact node9 op tb ix cols kids terms lk rk r est cost counts deep _ s8 h8 hkl hd fun k hk W hW => ih k hk W (by rw [hW, List.length_append, undersF_len, List.length_append]; simp)
end
theorem node_call (counts : List Int) (hci : ∀ n ∈ counts, I64 n) : ∀ (n : Nat) (p : Pn) (deep : Nat) (L0 : List (List UInt8)) (y0 : X), LnX y0 L0 → pnWt p ≤ n → n ≤ 1048576 → PnOk p → deep + n ≤ 2097152 → L0.length + nodesN p ≤ 2097152 →
    Gives Tryd.prog pr 20 [.ptr 0 0, .agg ((pnC p).map .of), .of (ci (deep : Nat))] [tellO counts y0] ⟨false, [], [tellO counts (lnO (L0 ++ underF counts deep L0.length p))]⟩
  | 0, p, _, _, _, _, h, _, _, _, _ => absurd (pnWt_pos p) (by omega)
  | n + 1, .mk op tb ix cols kids terms lk rk r est cost, deep, L0, y0, hy, h, hn, hk, hd, hl => by
    refine node_step op tb ix cols kids terms lk rk r est cost counts deep L0 y0 hy (by omega) hk hci (by omega) (by omega) fun k hk' W hW => ?_
    simp only [pnWt] at h
    simp only [PnOk] at hk
    simp only [nodesN] at hl
    have h1 := nodesNs_take kids k hk'
    have h2 := nodesNs_take_le kids (k + 1)
    have h3 := pnWt_mem (List.getElem_mem hk')
    exact node_call counts hci n kids[k] (deep + 1) W (lnO W) (.inr rfl) (by omega) (by omega) ((PnsOk_iff kids).1 hk.2.2.2.2.2.2 _ (List.getElem_mem hk')) (by omega) (by omega)
end Go.Proofs.YtfndkemgjhajnaaDoor

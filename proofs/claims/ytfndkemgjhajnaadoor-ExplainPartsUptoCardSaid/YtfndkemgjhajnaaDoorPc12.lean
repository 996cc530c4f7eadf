/-
  What the cards of chapter 30 share. Conditions: none.
-/
import Derived.Test.YtfndkemgjhajnaaDoorPc11
import Derived.Test.YtfndkemgjhajnaaDoorCards
import Derived.Test.YtfndkemgjhajnaaDoorTie
import Derived.WalkKit
import Derived.ProofKit
import Derived.OpenShut
import Derived.Deep.DeepHandedRow
import Derived.Lib.LaidTab
import Derived.Shelf.Vars
namespace Go.Proofs.YtfndkemgjhajnaaDoor
open Go Go.Pe Go.Tab Go.RowKit Go.ChangeShapes Go.Deep
set_option linter.unusedSectionVars false

theorem cons_of {α : Type} {l : List α} {n : Nat} (h : l.length = n + 1) : ∃ a r, l = a :: r ∧ r.length = n := by
  cases l with
  | nil => cases h
  | cons a r => exact ⟨a, r, rfl, Nat.succ.inj h⟩
theorem decB {cs : List C} {m : Nat} (h : Pl Tryd.prog 31 cs m) : ∃ a b c, cs = [a, b, c] := by
  obtain ⟨ps, ws, rfl, hp, hl, hx, hm⟩ := h.struct_inv Tryd.underlying31
  match ps, hp, ws, hl with
  | [p0, p1, p2], _, [w0, w1, w2], _ =>
    have h0 := hx 0 (by decide) (by simp) (by simp)
    have h1 := hx 1 (by decide) (by simp) (by simp)
    have h2 := hx 2 (by decide) (by simp) (by simp)
    simp only [List.getElem_cons_zero, List.getElem_cons_succ] at h0 h1 h2
    obtain ⟨a, rfl⟩ := h0.bool_inv Tryd.underlying4
    obtain ⟨b, rfl⟩ := h1.bool_inv Tryd.underlying4
    obtain ⟨c, rfl⟩ := h2.one_inv Tryd.underlying29
    exact ⟨_, _, _, rfl⟩
def pnG (g : Nat → C) : List C := [g 0, g 1, g 2, g 3, g 4, g 5, g 6, g 7, g 8, g 9, g 10, g 11, g 12, g 13, g 14, g 15, g 16, g 17, g 18, g 19, g 20, g 21, g 22]
theorem decP {cs : List C} {m : Nat} (h : Pl Tryd.prog 34 cs m) : ∃ g, cs = pnG g ∧ Pl Tryd.prog 22 [g 3] m ∧ Pl Tryd.prog 23 [g 4] m ∧ Pl Tryd.prog 24 [g 5] m ∧ Pl Tryd.prog 24 [g 6] m ∧ Pl Tryd.prog 24 [g 7] m := by
  obtain ⟨ps, ws, rfl, hp, hl, hx, hm⟩ := h.struct_inv Tryd.underlying34
  have hp' : ps.length = 19 := hp
  have hl' : ws.length = 19 := hl
  clear hp hl
  obtain ⟨p0, ps0t, rfl, ps0q⟩ := cons_of hp'
  obtain ⟨p1, ps1t, rfl, ps1q⟩ := cons_of ps0q
  obtain ⟨p2, ps2t, rfl, ps2q⟩ := cons_of ps1q
  obtain ⟨p3, ps3t, rfl, ps3q⟩ := cons_of ps2q
  obtain ⟨p4, ps4t, rfl, ps4q⟩ := cons_of ps3q
  obtain ⟨p5, ps5t, rfl, ps5q⟩ := cons_of ps4q
  obtain ⟨p6, ps6t, rfl, ps6q⟩ := cons_of ps5q
  obtain ⟨p7, ps7t, rfl, ps7q⟩ := cons_of ps6q
  obtain ⟨p8, ps8t, rfl, ps8q⟩ := cons_of ps7q
  obtain ⟨p9, ps9t, rfl, ps9q⟩ := cons_of ps8q
  obtain ⟨p10, ps10t, rfl, ps10q⟩ := cons_of ps9q
  obtain ⟨p11, ps11t, rfl, ps11q⟩ := cons_of ps10q
  obtain ⟨p12, ps12t, rfl, ps12q⟩ := cons_of ps11q
  obtain ⟨p13, ps13t, rfl, ps13q⟩ := cons_of ps12q
  obtain ⟨p14, ps14t, rfl, ps14q⟩ := cons_of ps13q
  obtain ⟨p15, ps15t, rfl, ps15q⟩ := cons_of ps14q
  obtain ⟨p16, ps16t, rfl, ps16q⟩ := cons_of ps15q
  obtain ⟨p17, ps17t, rfl, ps17q⟩ := cons_of ps16q
  obtain ⟨p18, ps18t, rfl, ps18q⟩ := cons_of ps17q
  obtain rfl : ps18t = [] := List.eq_nil_of_length_eq_zero ps18q
  obtain ⟨w0, ws0t, rfl, ws0q⟩ := cons_of hl'
  obtain ⟨w1, ws1t, rfl, ws1q⟩ := cons_of ws0q
  obtain ⟨w2, ws2t, rfl, ws2q⟩ := cons_of ws1q
  obtain ⟨w3, ws3t, rfl, ws3q⟩ := cons_of ws2q
  obtain ⟨w4, ws4t, rfl, ws4q⟩ := cons_of ws3q
  obtain ⟨w5, ws5t, rfl, ws5q⟩ := cons_of ws4q
  obtain ⟨w6, ws6t, rfl, ws6q⟩ := cons_of ws5q
  obtain ⟨w7, ws7t, rfl, ws7q⟩ := cons_of ws6q
  obtain ⟨w8, ws8t, rfl, ws8q⟩ := cons_of ws7q
  obtain ⟨w9, ws9t, rfl, ws9q⟩ := cons_of ws8q
  obtain ⟨w10, ws10t, rfl, ws10q⟩ := cons_of ws9q
  obtain ⟨w11, ws11t, rfl, ws11q⟩ := cons_of ws10q
  obtain ⟨w12, ws12t, rfl, ws12q⟩ := cons_of ws11q
  obtain ⟨w13, ws13t, rfl, ws13q⟩ := cons_of ws12q
  obtain ⟨w14, ws14t, rfl, ws14q⟩ := cons_of ws13q
  obtain ⟨w15, ws15t, rfl, ws15q⟩ := cons_of ws14q
  obtain ⟨w16, ws16t, rfl, ws16q⟩ := cons_of ws15q
  obtain ⟨w17, ws17t, rfl, ws17q⟩ := cons_of ws16q
  obtain ⟨w18, ws18t, rfl, ws18q⟩ := cons_of ws17q
  obtain rfl : ws18t = [] := List.eq_nil_of_length_eq_zero ws18q
  have h0 := hx 0 (by decide) (by simp) (by simp)
  have h1 := hx 1 (by decide) (by simp) (by simp)
  have h2 := hx 2 (by decide) (by simp) (by simp)
  have h3 := hx 3 (by decide) (by simp) (by simp)
  have h4 := hx 4 (by decide) (by simp) (by simp)
  have h5 := hx 5 (by decide) (by simp) (by simp)
  have h6 := hx 6 (by decide) (by simp) (by simp)
  have h7 := hx 7 (by decide) (by simp) (by simp)
  have h8 := hx 8 (by decide) (by simp) (by simp)
  have h9 := hx 9 (by decide) (by simp) (by simp)
  have h10 := hx 10 (by decide) (by simp) (by simp)
  have h11 := hx 11 (by decide) (by simp) (by simp)
  have h12 := hx 12 (by decide) (by simp) (by simp)
  have h13 := hx 13 (by decide) (by simp) (by simp)
  have h14 := hx 14 (by decide) (by simp) (by simp)
  have h15 := hx 15 (by decide) (by simp) (by simp)
  have h16 := hx 16 (by decide) (by simp) (by simp)
  have h17 := hx 17 (by decide) (by simp) (by simp)
  have h18 := hx 18 (by decide) (by simp) (by simp)
  simp only [List.getElem_cons_zero, List.getElem_cons_succ] at h0 h1 h2 h3 h4 h5 h6 h7 h8 h9 h10 h11 h12 h13 h14 h15 h16 h17 h18
  obtain ⟨op, rfl, i0⟩ := h0.int_inv Tryd.underlying3
  obtain ⟨s1, rfl, i1⟩ := h1.str_inv Tryd.underlying9
  obtain ⟨s2, rfl, i2⟩ := h2.str_inv Tryd.underlying9
  obtain ⟨c3, rfl⟩ := h3.one_inv Tryd.underlying22
  obtain ⟨c4, rfl⟩ := h4.one_inv Tryd.underlying23
  obtain ⟨c5, rfl⟩ := h5.one_inv Tryd.underlying24
  obtain ⟨c6, rfl⟩ := h6.one_inv Tryd.underlying24
  obtain ⟨c7, rfl⟩ := h7.one_inv Tryd.underlying24
  obtain ⟨c8, rfl⟩ := h8.one_inv Tryd.underlying25
  obtain ⟨c9, rfl⟩ := h9.one_inv Tryd.underlying26
  obtain ⟨c10, rfl⟩ := h10.one_inv Tryd.underlying27
  obtain ⟨x11, y11, z11, rfl⟩ := decB h11
  obtain ⟨x12, y12, z12, rfl⟩ := decB h12
  obtain ⟨n13, rfl, i13⟩ := h13.int_inv Tryd.underlying3
  obtain ⟨n14, rfl, i14⟩ := h14.int_inv Tryd.underlying3
  obtain ⟨b15, rfl⟩ := h15.bool_inv Tryd.underlying4
  obtain ⟨c16, rfl⟩ := h16.one_inv Tryd.underlying32
  obtain ⟨n17, rfl, i17⟩ := h17.int_inv Tryd.underlying3
  obtain ⟨n18, rfl, i18⟩ := h18.int_inv Tryd.underlying3
  simp only [List.sum_cons, List.sum_nil] at hm
  exact ⟨nth [ci op, cstr s1, cstr s2, c3, c4, c5, c6, c7, c8, c9, c10, x11, y11, z11, x12, y12, z12, ci n13, ci n14, cb b15, c16, ci n17, ci n18], rfl, h3.mono (by omega), h4.mono (by omega), h5.mono (by omega), h6.mono (by omega), h7.mono (by omega)⟩
def PlanSaid (cs : List C) (m : Nat) : Prop := ∃ p : Pn, cs = pnC p ∧ pnWt p ≤ m ∧ (m ≤ 1048576 → PnOk p)
def PlansSaid (cs : List C) (m : Nat) : Prop := ∃ l : List Pn, cs = [plansC l] ∧ pnsWt l + 1 ≤ m ∧ (m ≤ 1048576 → PnsOk l)
set_option maxHeartbeats 1600000 in
theorem dec_plans {t : TypeId} {cs : List C} {m : Nat} (h : Pl Tryd.prog t cs m) : (t = 34 → PlanSaid cs m) ∧ (t = 23 → PlansSaid cs m) := by
  induction h with
  | int hu => exact ⟨fun e => (by subst e; rw [Tryd.underlying34] at hu; cases hu), fun e => (by subst e; rw [Tryd.underlying23] at hu; cases hu)⟩
  | bool hu => exact ⟨fun e => (by subst e; rw [Tryd.underlying34] at hu; cases hu), fun e => (by subst e; rw [Tryd.underlying23] at hu; cases hu)⟩
  | str hu => exact ⟨fun e => (by subst e; rw [Tryd.underlying34] at hu; cases hu), fun e => (by subst e; rw [Tryd.underlying23] at hu; cases hu)⟩
  | @slice t e ps ws m n hu hp hl h hc hn hm ih =>
    refine ⟨fun e => (by subst e; rw [Tryd.underlying34] at hu; cases hu), fun e => ?_⟩
    subst e
    rw [Tryd.underlying23] at hu
    cases hu
    subst hp
    obtain ⟨l, rfl, l2, l3⟩ := dec_all (f := pnC) (w := pnWt) (Q := fun k x => k ≤ 1048576 → PnOk x) ps ws hl fun i h1 h2 => (ih i h1 h2).1 rfl
    refine ⟨l, by simp only [plansC, pnsC_eq, List.length_map], by rw [pnsWt_sum]; omega, fun hb => (PnsOk_iff l).2 fun x hx => ?_⟩
    obtain ⟨k, k1, k2⟩ := l3 x hx
    exact k2 (by omega)
  | @struct t fs ps ws m hu hp hl h hm ih =>
    refine ⟨fun e => ?_, fun e => (by subst e; rw [Tryd.underlying23] at hu; cases hu)⟩
    subst e
    rw [Tryd.underlying34] at hu
    cases hu
    have hp' : ps.length = 19 := hp
    have hl' : ws.length = 19 := hl
    clear hp hl
    obtain ⟨p0, ps0t, rfl, ps0q⟩ := cons_of hp'
    obtain ⟨p1, ps1t, rfl, ps1q⟩ := cons_of ps0q
    obtain ⟨p2, ps2t, rfl, ps2q⟩ := cons_of ps1q
    obtain ⟨p3, ps3t, rfl, ps3q⟩ := cons_of ps2q
    obtain ⟨p4, ps4t, rfl, ps4q⟩ := cons_of ps3q
    obtain ⟨p5, ps5t, rfl, ps5q⟩ := cons_of ps4q
    obtain ⟨p6, ps6t, rfl, ps6q⟩ := cons_of ps5q
    obtain ⟨p7, ps7t, rfl, ps7q⟩ := cons_of ps6q
    obtain ⟨p8, ps8t, rfl, ps8q⟩ := cons_of ps7q
    obtain ⟨p9, ps9t, rfl, ps9q⟩ := cons_of ps8q
    obtain ⟨p10, ps10t, rfl, ps10q⟩ := cons_of ps9q
    obtain ⟨p11, ps11t, rfl, ps11q⟩ := cons_of ps10q
    obtain ⟨p12, ps12t, rfl, ps12q⟩ := cons_of ps11q
    obtain ⟨p13, ps13t, rfl, ps13q⟩ := cons_of ps12q
    obtain ⟨p14, ps14t, rfl, ps14q⟩ := cons_of ps13q
    obtain ⟨p15, ps15t, rfl, ps15q⟩ := cons_of ps14q
    obtain ⟨p16, ps16t, rfl, ps16q⟩ := cons_of ps15q
    obtain ⟨p17, ps17t, rfl, ps17q⟩ := cons_of ps16q
    obtain ⟨p18, ps18t, rfl, ps18q⟩ := cons_of ps17q
    obtain rfl : ps18t = [] := List.eq_nil_of_length_eq_zero ps18q
    obtain ⟨w0, ws0t, rfl, ws0q⟩ := cons_of hl'
    obtain ⟨w1, ws1t, rfl, ws1q⟩ := cons_of ws0q
    obtain ⟨w2, ws2t, rfl, ws2q⟩ := cons_of ws1q
    obtain ⟨w3, ws3t, rfl, ws3q⟩ := cons_of ws2q
    obtain ⟨w4, ws4t, rfl, ws4q⟩ := cons_of ws3q
    obtain ⟨w5, ws5t, rfl, ws5q⟩ := cons_of ws4q
    obtain ⟨w6, ws6t, rfl, ws6q⟩ := cons_of ws5q
    obtain ⟨w7, ws7t, rfl, ws7q⟩ := cons_of ws6q
    obtain ⟨w8, ws8t, rfl, ws8q⟩ := cons_of ws7q
    obtain ⟨w9, ws9t, rfl, ws9q⟩ := cons_of ws8q
    obtain ⟨w10, ws10t, rfl, ws10q⟩ := cons_of ws9q
    obtain ⟨w11, ws11t, rfl, ws11q⟩ := cons_of ws10q
    obtain ⟨w12, ws12t, rfl, ws12q⟩ := cons_of ws11q
    obtain ⟨w13, ws13t, rfl, ws13q⟩ := cons_of ws12q
    obtain ⟨w14, ws14t, rfl, ws14q⟩ := cons_of ws13q
    obtain ⟨w15, ws15t, rfl, ws15q⟩ := cons_of ws14q
    obtain ⟨w16, ws16t, rfl, ws16q⟩ := cons_of ws15q
    obtain ⟨w17, ws17t, rfl, ws17q⟩ := cons_of ws16q
    obtain ⟨w18, ws18t, rfl, ws18q⟩ := cons_of ws17q
    obtain rfl : ws18t = [] := List.eq_nil_of_length_eq_zero ws18q
    have h0 := h 0 (by decide) (by simp) (by simp)
    have h1 := h 1 (by decide) (by simp) (by simp)
    have h2 := h 2 (by decide) (by simp) (by simp)
    have h3 := h 3 (by decide) (by simp) (by simp)
    have h4 := h 4 (by decide) (by simp) (by simp)
    have h5 := h 5 (by decide) (by simp) (by simp)
    have h6 := h 6 (by decide) (by simp) (by simp)
    have h7 := h 7 (by decide) (by simp) (by simp)
    have h8 := h 8 (by decide) (by simp) (by simp)
    have h9 := h 9 (by decide) (by simp) (by simp)
    have h10 := h 10 (by decide) (by simp) (by simp)
    have h11 := h 11 (by decide) (by simp) (by simp)
    have h12 := h 12 (by decide) (by simp) (by simp)
    have h13 := h 13 (by decide) (by simp) (by simp)
    have h14 := h 14 (by decide) (by simp) (by simp)
    have h15 := h 15 (by decide) (by simp) (by simp)
    have h16 := h 16 (by decide) (by simp) (by simp)
    have h17 := h 17 (by decide) (by simp) (by simp)
    have h18 := h 18 (by decide) (by simp) (by simp)
    simp only [List.getElem_cons_zero, List.getElem_cons_succ] at h0 h1 h2 h3 h4 h5 h6 h7 h8 h9 h10 h11 h12 h13 h14 h15 h16 h17 h18
    obtain ⟨op, rfl, i0⟩ := h0.int_inv Tryd.underlying3
    obtain ⟨s1, rfl, i1⟩ := h1.str_inv Tryd.underlying9
    obtain ⟨s2, rfl, i2⟩ := h2.str_inv Tryd.underlying9
    obtain ⟨cols, rfl, i3⟩ := dec_cols h3
    obtain ⟨kids, rfl, i4, i4o⟩ := (ih 4 (by decide) (by simp) (by simp)).2 rfl
    obtain ⟨terms, rfl, i5, i5o⟩ := (dec_terms h5).2 rfl
    obtain ⟨lk, rfl, i6, i6o⟩ := (dec_terms h6).2 rfl
    obtain ⟨rk, rfl, i7, i7o⟩ := (dec_terms h7).2 rfl
    obtain ⟨c8, rfl⟩ := h8.one_inv Tryd.underlying25
    obtain ⟨c9, rfl⟩ := h9.one_inv Tryd.underlying26
    obtain ⟨c10, rfl⟩ := h10.one_inv Tryd.underlying27
    obtain ⟨x11, y11, z11, rfl⟩ := decB h11
    obtain ⟨x12, y12, z12, rfl⟩ := decB h12
    obtain ⟨n13, rfl, i13⟩ := h13.int_inv Tryd.underlying3
    obtain ⟨n14, rfl, i14⟩ := h14.int_inv Tryd.underlying3
    obtain ⟨b15, rfl⟩ := h15.bool_inv Tryd.underlying4
    obtain ⟨c16, rfl⟩ := h16.one_inv Tryd.underlying32
    obtain ⟨n17, rfl, i17⟩ := h17.int_inv Tryd.underlying3
    obtain ⟨n18, rfl, i18⟩ := h18.int_inv Tryd.underlying3
    obtain ⟨tb, rfl, j1⟩ := strL_of s1
    obtain ⟨ix, rfl, j2⟩ := strL_of s2
    have q0 := h0.pos
    have q8 := h8.pos
    have q9 := h9.pos
    have q10 := h10.pos
    have q11 := h11.pos
    have q12 := h12.pos
    have q13 := h13.pos
    have q14 := h14.pos
    have q15 := h15.pos
    have q16 := h16.pos
    have q17 := h17.pos
    have q18 := h18.pos
    simp only [List.getElem_cons_zero, List.getElem_cons_succ] at i4 i4o
    simp only [List.sum_cons, List.sum_nil] at hm
    refine ⟨.mk op tb ix cols kids terms lk rk (nth [c8, c9, c10, x11, y11, z11, x12, y12, z12, ci n13, ci n14, cb b15, c16]) n17 n18, rfl, ?_, fun hb => ?_⟩
    · simp only [pnWt, clsWt]
      omega
    · simp only [PnOk]
      exact ⟨i0, i17, i18, i5o (by omega), i6o (by omega), i7o (by omega), i4o (by omega)⟩

set_option maxRecDepth 100000 in
theorem terms30 (c : C) (m : Nat) (hp : Pl Tryd.prog 24 [c] m) (hm : m ≤ 1048576) (n : Int) (hn1 : -2000000 ≤ n) (hn2 : n ≤ 600) : SomeN 36 [.of c, .of (ci n)] := by
  obtain ⟨l, rfl, hl, hx⟩ := allG (f := tmG) (Q := fun m g => Pl Tryd.prog 46 (tmG g) m) Tryd.underlying24 (fun cs m h => by
    obtain ⟨g, e, _⟩ := decT h
    exact ⟨g, e, e ▸ h⟩) hp
  have ia := fun k h => ia_fl (f := tmG) (z := 10) (fun _ => rfl) E24 rfl (by decide) l (.of (.sl (fl tmG l) l.length)) rfl k h
  have key : ∃ r : Int, WC Tryd.prog pr (bodyOf Tryd.prog 36) (initS [.of (.sl (fl tmG l) l.length), .of (ci n)] []) (fun e s' => (-2000000 ≤ r ∧ r ≤ 600) ∧ endQ Tryd.prog 36 0 ⟨false, [xint r], []⟩ e s') := by
    refine WC_ex ?_
    rw [body36]
    simp -implicitDefEqProofs (maxSteps := 1000000) only [Tryd.f36, ↓zD, zU, Nat.zero_mul, Nat.reduceMul, List.length_map, Tk.nm.injEq, Tk.cell.injEq, false_and, and_false, Nat.le_add_right, Nat.le_refl, ↓reduceIte, Bool.or_false, Bool.false_or, Bool.and_true, Bool.true_and, Bool.false_and, Bool.true_or, Bool.or_true, Option.isNone_none, Option.isNone_some, List.any_cons, List.any_nil, Bool.and_false, Nat.reduceBEq, Nat.reduceLeDiff, Int.reduceLT, Int.reduceEq, Int.reduceLE, Int.reduceAdd, Int.reduceToNat, Int.reduceNeg, Int.cast_ofNat_Int, Nat.reduceLT, List.drop_succ_cons, List.take_succ_cons, List.singleton_append, Nat.zero_add, List.set_cons_zero, List.set_cons_succ, List.drop_nil, List.take_nil, Option.map_some, Option.map_none, Option.getD_some, Option.getD_none, Option.bind_some, List.cons_append, List.nil_append, List.append_nil, List.map_cons, List.map_nil, List.range_zero, List.take_zero, List.flatten_nil, List.filter_nil, List.length_nil, List.length_cons, List.drop_zero, List.not_mem_nil, List.mem_cons, Bool.true_eq_false, Bool.false_eq_true, Nat.reduceEqDiff, Nat.reduceAdd, List.getElem?_toArray, List.toList_toArray, List.getElem?_cons_zero, List.getElem?_cons_succ, decide_eq_true_eq, beq_self_eq_true, beq_true, beq_false, decide_true, decide_false, Bool.not_true, Bool.not_false, true_and, and_true, or_false, false_or, Bool.and_eq_true, reduceCtorEq, not_false_eq_true, cat_u, lit_strL, List.append_assoc, rv36]
    refine WC_inv _ _ (fun m s => ∃ (k : Nat) (n : Int), (-2000000 ≤ n ∧ n ≤ 600) ∧ k ≤ l.length ∧ m = l.length - k ∧ s.fr 0 = .of (.sl (fl tmG l) l.length) ∧ s.fr 1 = xint n ∧ s.fr 5 = xint k ∧ s.objs = []) ?_ l.length _ ?_
    · rintro m' s ⟨k, n, hn, hk1, rfl, f0, f1, f5, ho⟩
      have hw1 := wrapS k (by omega)
      have hw2 := wrapD n (by omega) (by omega)
      by_cases c1 : k < l.length
      · have d1 : decide ((k : Int) < (l.length : Int)) = true := decide_eq_true (by omega)
        by_cases c2 : 0 < n
        · have d2 : decide (0 < n) = true := decide_eq_true c2
          have hq : pieceC (TT.of Tryd.prog) 46 (fl tmG (l.drop k)) = some (.agg (tmG l[k])) := by
            rw [fl_at tmG l k c1]
            exact Q46 ..
          obtain ⟨w, hw, q⟩ := hx l[k] (List.getElem_mem c1)
          obtain ⟨b, hb⟩ := large21 _ _ q (by omega)
          have x1 := fun K => Gives.k hb K
          cases b
          · simp -implicitDefEqProofs (maxSteps := 1000000) only [↓zD, zU, Nat.zero_mul, Nat.reduceMul, List.length_map, Tk.nm.injEq, Tk.cell.injEq, false_and, and_false, Nat.le_add_right, Nat.le_refl, ↓reduceIte, Bool.or_false, Bool.false_or, Bool.and_true, Bool.true_and, Bool.false_and, Bool.true_or, Bool.or_true, Option.isNone_none, Option.isNone_some, List.any_cons, List.any_nil, Bool.and_false, Nat.reduceBEq, Nat.reduceLeDiff, Int.reduceLT, Int.reduceEq, Int.reduceLE, Int.reduceAdd, Int.reduceToNat, Int.reduceNeg, Int.cast_ofNat_Int, Nat.reduceLT, List.drop_succ_cons, List.take_succ_cons, List.singleton_append, Nat.zero_add, List.set_cons_zero, List.set_cons_succ, List.drop_nil, List.take_nil, Option.map_some, Option.map_none, Option.getD_some, Option.getD_none, Option.bind_some, List.cons_append, List.nil_append, List.append_nil, List.map_cons, List.map_nil, List.range_zero, List.take_zero, List.flatten_nil, List.filter_nil, List.length_nil, List.length_cons, List.drop_zero, List.not_mem_nil, List.mem_cons, Bool.true_eq_false, Bool.false_eq_true, Nat.reduceEqDiff, Nat.reduceAdd, List.getElem?_toArray, List.toList_toArray, List.getElem?_cons_zero, List.getElem?_cons_succ, decide_eq_true_eq, beq_self_eq_true, beq_true, beq_false, decide_true, decide_false, Bool.not_true, Bool.not_false, true_and, and_true, or_false, false_or, Bool.and_eq_true, reduceCtorEq, not_false_eq_true, cat_u, lit_strL, List.append_assoc, f0, f1, f5, ho, U3, U9, U37, U24, U44, U25, U32, U22, U23, T3, len_txt, d1, d2, hw1, hw2, ia k c1, hq, x1, pr_obj, obj13, call13]
            refine ⟨_, ?_, k + 1, n - 1, ⟨by omega, by omega⟩, by omega, rfl, rfl, rfl⟩
            omega
          · simp -implicitDefEqProofs (maxSteps := 1000000) only [↓zD, zU, Nat.zero_mul, Nat.reduceMul, List.length_map, Tk.nm.injEq, Tk.cell.injEq, false_and, and_false, Nat.le_add_right, Nat.le_refl, ↓reduceIte, Bool.or_false, Bool.false_or, Bool.and_true, Bool.true_and, Bool.false_and, Bool.true_or, Bool.or_true, Option.isNone_none, Option.isNone_some, List.any_cons, List.any_nil, Bool.and_false, Nat.reduceBEq, Nat.reduceLeDiff, Int.reduceLT, Int.reduceEq, Int.reduceLE, Int.reduceAdd, Int.reduceToNat, Int.reduceNeg, Int.cast_ofNat_Int, Nat.reduceLT, List.drop_succ_cons, List.take_succ_cons, List.singleton_append, Nat.zero_add, List.set_cons_zero, List.set_cons_succ, List.drop_nil, List.take_nil, Option.map_some, Option.map_none, Option.getD_some, Option.getD_none, Option.bind_some, List.cons_append, List.nil_append, List.append_nil, List.map_cons, List.map_nil, List.range_zero, List.take_zero, List.flatten_nil, List.filter_nil, List.length_nil, List.length_cons, List.drop_zero, List.not_mem_nil, List.mem_cons, Bool.true_eq_false, Bool.false_eq_true, Nat.reduceEqDiff, Nat.reduceAdd, List.getElem?_toArray, List.toList_toArray, List.getElem?_cons_zero, List.getElem?_cons_succ, decide_eq_true_eq, beq_self_eq_true, beq_true, beq_false, decide_true, decide_false, Bool.not_true, Bool.not_false, true_and, and_true, or_false, false_or, Bool.and_eq_true, reduceCtorEq, not_false_eq_true, cat_u, lit_strL, List.append_assoc, f0, f1, f5, ho, U3, U9, U37, U24, U44, U25, U32, U22, U23, T3, len_txt, d1, d2, hw1, hw2, ia k c1, hq, x1, pr_obj, obj13, call13, rv36, Tryd.f36]
            exact ⟨0, ⟨by omega, by omega⟩, rfl⟩
        · have d2 : decide (0 < n) = false := decide_eq_false c2
          simp -implicitDefEqProofs (maxSteps := 1000000) only [↓zD, zU, Nat.zero_mul, Nat.reduceMul, List.length_map, Tk.nm.injEq, Tk.cell.injEq, false_and, and_false, Nat.le_add_right, Nat.le_refl, ↓reduceIte, Bool.or_false, Bool.false_or, Bool.and_true, Bool.true_and, Bool.false_and, Bool.true_or, Bool.or_true, Option.isNone_none, Option.isNone_some, List.any_cons, List.any_nil, Bool.and_false, Nat.reduceBEq, Nat.reduceLeDiff, Int.reduceLT, Int.reduceEq, Int.reduceLE, Int.reduceAdd, Int.reduceToNat, Int.reduceNeg, Int.cast_ofNat_Int, Nat.reduceLT, List.drop_succ_cons, List.take_succ_cons, List.singleton_append, Nat.zero_add, List.set_cons_zero, List.set_cons_succ, List.drop_nil, List.take_nil, Option.map_some, Option.map_none, Option.getD_some, Option.getD_none, Option.bind_some, List.cons_append, List.nil_append, List.append_nil, List.map_cons, List.map_nil, List.range_zero, List.take_zero, List.flatten_nil, List.filter_nil, List.length_nil, List.length_cons, List.drop_zero, List.not_mem_nil, List.mem_cons, Bool.true_eq_false, Bool.false_eq_true, Nat.reduceEqDiff, Nat.reduceAdd, List.getElem?_toArray, List.toList_toArray, List.getElem?_cons_zero, List.getElem?_cons_succ, decide_eq_true_eq, beq_self_eq_true, beq_true, beq_false, decide_true, decide_false, Bool.not_true, Bool.not_false, true_and, and_true, or_false, false_or, Bool.and_eq_true, reduceCtorEq, not_false_eq_true, cat_u, lit_strL, List.append_assoc, f0, f1, f5, ho, U3, U9, U37, U24, U44, U25, U32, U22, U23, T3, len_txt, d1, d2, rv36, Tryd.f36]
          exact ⟨n, hn, rfl⟩
      · have d1 : decide ((k : Int) < (l.length : Int)) = false := decide_eq_false (by omega)
        simp -implicitDefEqProofs (maxSteps := 1000000) only [↓zD, zU, Nat.zero_mul, Nat.reduceMul, List.length_map, Tk.nm.injEq, Tk.cell.injEq, false_and, and_false, Nat.le_add_right, Nat.le_refl, ↓reduceIte, Bool.or_false, Bool.false_or, Bool.and_true, Bool.true_and, Bool.false_and, Bool.true_or, Bool.or_true, Option.isNone_none, Option.isNone_some, List.any_cons, List.any_nil, Bool.and_false, Nat.reduceBEq, Nat.reduceLeDiff, Int.reduceLT, Int.reduceEq, Int.reduceLE, Int.reduceAdd, Int.reduceToNat, Int.reduceNeg, Int.cast_ofNat_Int, Nat.reduceLT, List.drop_succ_cons, List.take_succ_cons, List.singleton_append, Nat.zero_add, List.set_cons_zero, List.set_cons_succ, List.drop_nil, List.take_nil, Option.map_some, Option.map_none, Option.getD_some, Option.getD_none, Option.bind_some, List.cons_append, List.nil_append, List.append_nil, List.map_cons, List.map_nil, List.range_zero, List.take_zero, List.flatten_nil, List.filter_nil, List.length_nil, List.length_cons, List.drop_zero, List.not_mem_nil, List.mem_cons, Bool.true_eq_false, Bool.false_eq_true, Nat.reduceEqDiff, Nat.reduceAdd, List.getElem?_toArray, List.toList_toArray, List.getElem?_cons_zero, List.getElem?_cons_succ, decide_eq_true_eq, beq_self_eq_true, beq_true, beq_false, decide_true, decide_false, Bool.not_true, Bool.not_false, true_and, and_true, or_false, false_or, Bool.and_eq_true, reduceCtorEq, not_false_eq_true, cat_u, lit_strL, List.append_assoc, f0, f1, f5, ho, U3, U9, U37, U24, U44, U25, U32, U22, U23, T3, len_txt, d1, rv36, Tryd.f36]
        exact ⟨n, hn, rfl⟩
    · exact ⟨0, n, ⟨hn1, hn2⟩, by omega, by omega, by simp -implicitDefEqProofs only [↓zD, zU, Nat.zero_mul, Nat.reduceMul, List.length_map, Tk.nm.injEq, Tk.cell.injEq, false_and, and_false, Nat.le_add_right, Nat.le_refl, ↓reduceIte, Bool.or_false, Bool.false_or, Bool.and_true, Bool.true_and, Bool.false_and, Bool.true_or, Bool.or_true, Option.isNone_none, Option.isNone_some, List.any_cons, List.any_nil, Bool.and_false, Nat.reduceBEq, Nat.reduceLeDiff, Int.reduceLT, Int.reduceEq, Int.reduceLE, Int.reduceAdd, Int.reduceToNat, Int.reduceNeg, Int.cast_ofNat_Int, Nat.reduceLT, List.drop_succ_cons, List.take_succ_cons, List.singleton_append, Nat.zero_add, List.set_cons_zero, List.set_cons_succ, List.drop_nil, List.take_nil, Option.map_some, Option.map_none, Option.getD_some, Option.getD_none, Option.bind_some, List.cons_append, List.nil_append, List.append_nil, List.map_cons, List.map_nil, List.range_zero, List.take_zero, List.flatten_nil, List.filter_nil, List.length_nil, List.length_cons, List.drop_zero, List.not_mem_nil, List.mem_cons, Bool.true_eq_false, Bool.false_eq_true, Nat.reduceEqDiff, Nat.reduceAdd, List.getElem?_toArray, List.toList_toArray, List.getElem?_cons_zero, List.getElem?_cons_succ, decide_eq_true_eq, beq_self_eq_true, beq_true, beq_false, decide_true, decide_false, Bool.not_true, Bool.not_false, true_and, and_true, or_false, false_or, Bool.and_eq_true, reduceCtorEq, not_false_eq_true, Z1u], by simp -implicitDefEqProofs only [↓zD, zU, Nat.zero_mul, Nat.reduceMul, List.length_map, Tk.nm.injEq, Tk.cell.injEq, false_and, and_false, Nat.le_add_right, Nat.le_refl, ↓reduceIte, Bool.or_false, Bool.false_or, Bool.and_true, Bool.true_and, Bool.false_and, Bool.true_or, Bool.or_true, Option.isNone_none, Option.isNone_some, List.any_cons, List.any_nil, Bool.and_false, Nat.reduceBEq, Nat.reduceLeDiff, Int.reduceLT, Int.reduceEq, Int.reduceLE, Int.reduceAdd, Int.reduceToNat, Int.reduceNeg, Int.cast_ofNat_Int, Nat.reduceLT, List.drop_succ_cons, List.take_succ_cons, List.singleton_append, Nat.zero_add, List.set_cons_zero, List.set_cons_succ, List.drop_nil, List.take_nil, Option.map_some, Option.map_none, Option.getD_some, Option.getD_none, Option.bind_some, List.cons_append, List.nil_append, List.append_nil, List.map_cons, List.map_nil, List.range_zero, List.take_zero, List.flatten_nil, List.filter_nil, List.length_nil, List.length_cons, List.drop_zero, List.not_mem_nil, List.mem_cons, Bool.true_eq_false, Bool.false_eq_true, Nat.reduceEqDiff, Nat.reduceAdd, List.getElem?_toArray, List.toList_toArray, List.getElem?_cons_zero, List.getElem?_cons_succ, decide_eq_true_eq, beq_self_eq_true, beq_true, beq_false, decide_true, decide_false, Bool.not_true, Bool.not_false, true_and, and_true, or_false, false_or, Bool.and_eq_true, reduceCtorEq, not_false_eq_true, Z1u], by simp -implicitDefEqProofs only [↓zD, zU, Nat.zero_mul, Nat.reduceMul, List.length_map, Tk.nm.injEq, Tk.cell.injEq, false_and, and_false, Nat.le_add_right, Nat.le_refl, ↓reduceIte, Bool.or_false, Bool.false_or, Bool.and_true, Bool.true_and, Bool.false_and, Bool.true_or, Bool.or_true, Option.isNone_none, Option.isNone_some, List.any_cons, List.any_nil, Bool.and_false, Nat.reduceBEq, Nat.reduceLeDiff, Int.reduceLT, Int.reduceEq, Int.reduceLE, Int.reduceAdd, Int.reduceToNat, Int.reduceNeg, Int.cast_ofNat_Int, Nat.reduceLT, List.drop_succ_cons, List.take_succ_cons, List.singleton_append, Nat.zero_add, List.set_cons_zero, List.set_cons_succ, List.drop_nil, List.take_nil, Option.map_some, Option.map_none, Option.getD_some, Option.getD_none, Option.bind_some, List.cons_append, List.nil_append, List.append_nil, List.map_cons, List.map_nil, List.range_zero, List.take_zero, List.flatten_nil, List.filter_nil, List.length_nil, List.length_cons, List.drop_zero, List.not_mem_nil, List.mem_cons, Bool.true_eq_false, Bool.false_eq_true, Nat.reduceEqDiff, Nat.reduceAdd, List.getElem?_toArray, List.toList_toArray, List.getElem?_cons_zero, List.getElem?_cons_succ, decide_eq_true_eq, beq_self_eq_true, beq_true, beq_false, decide_true, decide_false, Bool.not_true, Bool.not_false, true_and, and_true, or_false, false_or, Bool.and_eq_true, reduceCtorEq, not_false_eq_true, Z1u] <;> rfl, by simp -implicitDefEqProofs only [↓zD, zU, Nat.zero_mul, Nat.reduceMul, List.length_map, Tk.nm.injEq, Tk.cell.injEq, false_and, and_false, Nat.le_add_right, Nat.le_refl, ↓reduceIte, Bool.or_false, Bool.false_or, Bool.and_true, Bool.true_and, Bool.false_and, Bool.true_or, Bool.or_true, Option.isNone_none, Option.isNone_some, List.any_cons, List.any_nil, Bool.and_false, Nat.reduceBEq, Nat.reduceLeDiff, Int.reduceLT, Int.reduceEq, Int.reduceLE, Int.reduceAdd, Int.reduceToNat, Int.reduceNeg, Int.cast_ofNat_Int, Nat.reduceLT, List.drop_succ_cons, List.take_succ_cons, List.singleton_append, Nat.zero_add, List.set_cons_zero, List.set_cons_succ, List.drop_nil, List.take_nil, Option.map_some, Option.map_none, Option.getD_some, Option.getD_none, Option.bind_some, List.cons_append, List.nil_append, List.append_nil, List.map_cons, List.map_nil, List.range_zero, List.take_zero, List.flatten_nil, List.filter_nil, List.length_nil, List.length_cons, List.drop_zero, List.not_mem_nil, List.mem_cons, Bool.true_eq_false, Bool.false_eq_true, Nat.reduceEqDiff, Nat.reduceAdd, List.getElem?_toArray, List.toList_toArray, List.getElem?_cons_zero, List.getElem?_cons_succ, decide_eq_true_eq, beq_self_eq_true, beq_true, beq_false, decide_true, decide_false, Bool.not_true, Bool.not_false, true_and, and_true, or_false, false_or, Bool.and_eq_true, reduceCtorEq, not_false_eq_true, Z1u]⟩
  obtain ⟨r, hr⟩ := key
  have hr2 : -2000000 ≤ r ∧ r ≤ 600 := by
    obtain ⟨_, _, _, _, h, _⟩ := hr
    exact h
  exact ⟨r, hr2, by_body rfl ok36 rfl ar36 rfl (WC_mono hr fun _ _ h => h.2)⟩

def S30 (d : Nat) : Prop := ∀ (c : C) (m : Nat), Pl Tryd.prog 23 [c] m → m ≤ 1048576 → ∀ n : Int, -2000000 ≤ n → n ≤ 600 → SomeN 18 [.of c, .of (ci n), .of (ci (d : Nat))]
set_option maxRecDepth 100000 in
theorem spent30_step (d : Nat) (hd : d ≤ 1000) (h1 : ∀ d', d = d' + 1 → S30 d') : S30 d := by
  intro c m hp hm n hn1 hn2
  obtain ⟨l, rfl, hl, hx⟩ := allG (f := pnG) (Q := fun m g => Pl Tryd.prog 22 [g 3] m ∧ Pl Tryd.prog 23 [g 4] m ∧ Pl Tryd.prog 24 [g 5] m ∧ Pl Tryd.prog 24 [g 6] m ∧ Pl Tryd.prog 24 [g 7] m) Tryd.underlying23 (fun _ _ => decP) hp
  have ia := fun k h => ia_fl (f := pnG) (z := 23) (fun _ => rfl) E23 rfl (by decide) l (.of (.sl (fl pnG l) l.length)) rfl k h
  have key : ∃ r : Int, WC Tryd.prog pr (bodyOf Tryd.prog 18) (initS [.of (.sl (fl pnG l) l.length), .of (ci n), .of (ci (d : Nat))] []) (fun e s' => (-2000000 ≤ r ∧ r ≤ 600) ∧ endQ Tryd.prog 18 0 ⟨false, [xint r], []⟩ e s') := by
    refine WC_ex ?_
    rw [body18]
    simp -implicitDefEqProofs (maxSteps := 1000000) only [Tryd.f18, ↓zD, zU, Nat.zero_mul, Nat.reduceMul, List.length_map, Tk.nm.injEq, Tk.cell.injEq, false_and, and_false, Nat.le_add_right, Nat.le_refl, ↓reduceIte, Bool.or_false, Bool.false_or, Bool.and_true, Bool.true_and, Bool.false_and, Bool.true_or, Bool.or_true, Option.isNone_none, Option.isNone_some, List.any_cons, List.any_nil, Bool.and_false, Nat.reduceBEq, Nat.reduceLeDiff, Int.reduceLT, Int.reduceEq, Int.reduceLE, Int.reduceAdd, Int.reduceToNat, Int.reduceNeg, Int.cast_ofNat_Int, Nat.reduceLT, List.drop_succ_cons, List.take_succ_cons, List.singleton_append, Nat.zero_add, List.set_cons_zero, List.set_cons_succ, List.drop_nil, List.take_nil, Option.map_some, Option.map_none, Option.getD_some, Option.getD_none, Option.bind_some, List.cons_append, List.nil_append, List.append_nil, List.map_cons, List.map_nil, List.range_zero, List.take_zero, List.flatten_nil, List.filter_nil, List.length_nil, List.length_cons, List.drop_zero, List.not_mem_nil, List.mem_cons, Bool.true_eq_false, Bool.false_eq_true, Nat.reduceEqDiff, Nat.reduceAdd, List.getElem?_toArray, List.toList_toArray, List.getElem?_cons_zero, List.getElem?_cons_succ, decide_eq_true_eq, beq_self_eq_true, beq_true, beq_false, decide_true, decide_false, Bool.not_true, Bool.not_false, true_and, and_true, or_false, false_or, Bool.and_eq_true, reduceCtorEq, not_false_eq_true, cat_u, lit_strL, List.append_assoc, rv18]
    refine WC_inv _ _ (fun m s => ∃ (k : Nat) (n : Int), (-2000000 ≤ n ∧ n ≤ 600) ∧ k ≤ l.length ∧ m = l.length - k ∧ s.fr 0 = .of (.sl (fl pnG l) l.length) ∧ s.fr 1 = xint n ∧ s.fr 2 = xint (d : Nat) ∧ s.fr 7 = xint k ∧ s.objs = []) ?_ l.length _ ?_
    · rintro m' s ⟨k, n, hn, hk1, rfl, f0, f1, f2, f7, ho⟩
      have hw1 := wrapS k (by omega)
      have hw2 := wrapD n (by omega) (by omega)
      by_cases c1 : k < l.length
      · have d1 : decide ((k : Int) < (l.length : Int)) = true := decide_eq_true (by omega)
        by_cases c2 : 0 < n
        · have d2 : decide (0 < n) = true := decide_eq_true c2
          rcases d with _ | d
          · simp -implicitDefEqProofs (maxSteps := 1000000) only [↓zD, zU, Nat.zero_mul, Nat.reduceMul, List.length_map, Tk.nm.injEq, Tk.cell.injEq, false_and, and_false, Nat.le_add_right, Nat.le_refl, ↓reduceIte, Bool.or_false, Bool.false_or, Bool.and_true, Bool.true_and, Bool.false_and, Bool.true_or, Bool.or_true, Option.isNone_none, Option.isNone_some, List.any_cons, List.any_nil, Bool.and_false, Nat.reduceBEq, Nat.reduceLeDiff, Int.reduceLT, Int.reduceEq, Int.reduceLE, Int.reduceAdd, Int.reduceToNat, Int.reduceNeg, Int.cast_ofNat_Int, Nat.reduceLT, List.drop_succ_cons, List.take_succ_cons, List.singleton_append, Nat.zero_add, List.set_cons_zero, List.set_cons_succ, List.drop_nil, List.take_nil, Option.map_some, Option.map_none, Option.getD_some, Option.getD_none, Option.bind_some, List.cons_append, List.nil_append, List.append_nil, List.map_cons, List.map_nil, List.range_zero, List.take_zero, List.flatten_nil, List.filter_nil, List.length_nil, List.length_cons, List.drop_zero, List.not_mem_nil, List.mem_cons, Bool.true_eq_false, Bool.false_eq_true, Nat.reduceEqDiff, Nat.reduceAdd, List.getElem?_toArray, List.toList_toArray, List.getElem?_cons_zero, List.getElem?_cons_succ, decide_eq_true_eq, beq_self_eq_true, beq_true, beq_false, decide_true, decide_false, Bool.not_true, Bool.not_false, true_and, and_true, or_false, false_or, Bool.and_eq_true, reduceCtorEq, not_false_eq_true, cat_u, lit_strL, List.append_assoc, f0, f1, f2, f7, ho, U3, U9, U37, U24, U44, U25, U32, U22, U23, T3, len_txt, boxO, zeroX_at, T46, P46, fr46_5, fr46_6, Q24, Q44, Q25, Q32, fr97_3, fr97_4, fr97_5, fr97_10, fr99_2, P3, P9, d1, d2, rv18, Tryd.f18]
            exact ⟨0, ⟨by omega, by omega⟩, rfl⟩
          · have d3 : decide ((((d + 1 : Nat)) : Int) = 0) = false := decide_eq_false (by omega)
            have hw3 := wrapDn d (by omega)
            have hq : fl pnG (l.drop k) = l[k] 0 :: l[k] 1 :: l[k] 2 :: l[k] 3 :: l[k] 4 :: l[k] 5 :: l[k] 6 :: l[k] 7 :: l[k] 8 :: l[k] 9 :: l[k] 10 :: l[k] 11 :: l[k] 12 :: l[k] 13 :: l[k] 14 :: l[k] 15 :: l[k] 16 :: l[k] 17 :: l[k] 18 :: l[k] 19 :: l[k] 20 :: l[k] 21 :: l[k] 22 :: fl pnG (l.drop (k + 1)) := fl_at pnG l k c1
            have hxk := hx l[k] (List.getElem_mem c1)
            have iak := ia k c1
            generalize l[k] = g at hq hxk
            obtain ⟨w, hw, q3, q4, q5, q6, q7⟩ := hxk
            obtain ⟨ps, ws, e3, hl3, hx3, hm3⟩ := q3.slice_inv Tryd.underlying22
            have hz3 := sum_le hl3 hx3
            simp only [List.cons.injEq, and_true] at e3
            have hw4 : IntKind.i64.wrap (n - 1 - (ps.length : Int)) = n - 1 - (ps.length : Int) := wrap64_ok _ (by omega) (by omega)
            obtain ⟨r1, ⟨r1a, r1b⟩, g1⟩ := terms30 _ _ q7 (by omega) (n - 1 - (ps.length : Int)) (by omega) (by omega)
            obtain ⟨r2, ⟨r2a, r2b⟩, g2⟩ := terms30 _ _ q6 (by omega) r1 r1a r1b
            obtain ⟨r3, ⟨r3a, r3b⟩, g3⟩ := terms30 _ _ q5 (by omega) r2 r2a r2b
            obtain ⟨r4, ⟨r4a, r4b⟩, g4⟩ := h1 d rfl _ _ q4 (by omega) r3 r3a r3b
            have x1 := fun K => Gives.k g1 K
            have x2 := fun K => Gives.k g2 K
            have x3 := fun K => Gives.k g3 K
            have x4 := fun K => Gives.k g4 K
            simp -implicitDefEqProofs (maxSteps := 1000000) only [↓zD, zU, Nat.zero_mul, Nat.reduceMul, List.length_map, Tk.nm.injEq, Tk.cell.injEq, false_and, and_false, Nat.le_add_right, Nat.le_refl, ↓reduceIte, Bool.or_false, Bool.false_or, Bool.and_true, Bool.true_and, Bool.false_and, Bool.true_or, Bool.or_true, Option.isNone_none, Option.isNone_some, List.any_cons, List.any_nil, Bool.and_false, Nat.reduceBEq, Nat.reduceLeDiff, Int.reduceLT, Int.reduceEq, Int.reduceLE, Int.reduceAdd, Int.reduceToNat, Int.reduceNeg, Int.cast_ofNat_Int, Nat.reduceLT, List.drop_succ_cons, List.take_succ_cons, List.singleton_append, Nat.zero_add, List.set_cons_zero, List.set_cons_succ, List.drop_nil, List.take_nil, Option.map_some, Option.map_none, Option.getD_some, Option.getD_none, Option.bind_some, List.cons_append, List.nil_append, List.append_nil, List.map_cons, List.map_nil, List.range_zero, List.take_zero, List.flatten_nil, List.filter_nil, List.length_nil, List.length_cons, List.drop_zero, List.not_mem_nil, List.mem_cons, Bool.true_eq_false, Bool.false_eq_true, Nat.reduceEqDiff, Nat.reduceAdd, List.getElem?_toArray, List.toList_toArray, List.getElem?_cons_zero, List.getElem?_cons_succ, decide_eq_true_eq, beq_self_eq_true, beq_true, beq_false, decide_true, decide_false, Bool.not_true, Bool.not_false, true_and, and_true, or_false, false_or, Bool.and_eq_true, reduceCtorEq, not_false_eq_true, cat_u, lit_strL, List.append_assoc, f0, f1, f2, f7, ho, U3, U9, U37, U24, U44, U25, U32, U22, U23, T3, len_txt, boxO, zeroX_at, T46, P46, fr46_5, fr46_6, Q24, Q44, Q25, Q32, fr97_3, fr97_4, fr97_5, fr97_10, fr99_2, P3, P9, fr34_3, fr34_4, fr34_5, fr34_6, fr34_7, Q22, Q23, T34, P34, d1, d2, d3, hw1, hw2, hw3, hw4, iak, hq, e3, x1, x2, x3, x4, pr_obj, obj36, call36, obj18, call18]
            refine ⟨_, ?_, k + 1, r4, ⟨r4a, r4b⟩, by omega, rfl, rfl, rfl⟩
            omega
        · have d2 : decide (0 < n) = false := decide_eq_false c2
          simp -implicitDefEqProofs (maxSteps := 1000000) only [↓zD, zU, Nat.zero_mul, Nat.reduceMul, List.length_map, Tk.nm.injEq, Tk.cell.injEq, false_and, and_false, Nat.le_add_right, Nat.le_refl, ↓reduceIte, Bool.or_false, Bool.false_or, Bool.and_true, Bool.true_and, Bool.false_and, Bool.true_or, Bool.or_true, Option.isNone_none, Option.isNone_some, List.any_cons, List.any_nil, Bool.and_false, Nat.reduceBEq, Nat.reduceLeDiff, Int.reduceLT, Int.reduceEq, Int.reduceLE, Int.reduceAdd, Int.reduceToNat, Int.reduceNeg, Int.cast_ofNat_Int, Nat.reduceLT, List.drop_succ_cons, List.take_succ_cons, List.singleton_append, Nat.zero_add, List.set_cons_zero, List.set_cons_succ, List.drop_nil, List.take_nil, Option.map_some, Option.map_none, Option.getD_some, Option.getD_none, Option.bind_some, List.cons_append, List.nil_append, List.append_nil, List.map_cons, List.map_nil, List.range_zero, List.take_zero, List.flatten_nil, List.filter_nil, List.length_nil, List.length_cons, List.drop_zero, List.not_mem_nil, List.mem_cons, Bool.true_eq_false, Bool.false_eq_true, Nat.reduceEqDiff, Nat.reduceAdd, List.getElem?_toArray, List.toList_toArray, List.getElem?_cons_zero, List.getElem?_cons_succ, decide_eq_true_eq, beq_self_eq_true, beq_true, beq_false, decide_true, decide_false, Bool.not_true, Bool.not_false, true_and, and_true, or_false, false_or, Bool.and_eq_true, reduceCtorEq, not_false_eq_true, cat_u, lit_strL, List.append_assoc, f0, f1, f2, f7, ho, U3, U9, U37, U24, U44, U25, U32, U22, U23, T3, len_txt, boxO, zeroX_at, T46, P46, fr46_5, fr46_6, Q24, Q44, Q25, Q32, fr97_3, fr97_4, fr97_5, fr97_10, fr99_2, P3, P9, d1, d2, rv18, Tryd.f18]
          exact ⟨n, hn, rfl⟩
      · have d1 : decide ((k : Int) < (l.length : Int)) = false := decide_eq_false (by omega)
        simp -implicitDefEqProofs (maxSteps := 1000000) only [↓zD, zU, Nat.zero_mul, Nat.reduceMul, List.length_map, Tk.nm.injEq, Tk.cell.injEq, false_and, and_false, Nat.le_add_right, Nat.le_refl, ↓reduceIte, Bool.or_false, Bool.false_or, Bool.and_true, Bool.true_and, Bool.false_and, Bool.true_or, Bool.or_true, Option.isNone_none, Option.isNone_some, List.any_cons, List.any_nil, Bool.and_false, Nat.reduceBEq, Nat.reduceLeDiff, Int.reduceLT, Int.reduceEq, Int.reduceLE, Int.reduceAdd, Int.reduceToNat, Int.reduceNeg, Int.cast_ofNat_Int, Nat.reduceLT, List.drop_succ_cons, List.take_succ_cons, List.singleton_append, Nat.zero_add, List.set_cons_zero, List.set_cons_succ, List.drop_nil, List.take_nil, Option.map_some, Option.map_none, Option.getD_some, Option.getD_none, Option.bind_some, List.cons_append, List.nil_append, List.append_nil, List.map_cons, List.map_nil, List.range_zero, List.take_zero, List.flatten_nil, List.filter_nil, List.length_nil, List.length_cons, List.drop_zero, List.not_mem_nil, List.mem_cons, Bool.true_eq_false, Bool.false_eq_true, Nat.reduceEqDiff, Nat.reduceAdd, List.getElem?_toArray, List.toList_toArray, List.getElem?_cons_zero, List.getElem?_cons_succ, decide_eq_true_eq, beq_self_eq_true, beq_true, beq_false, decide_true, decide_false, Bool.not_true, Bool.not_false, true_and, and_true, or_false, false_or, Bool.and_eq_true, reduceCtorEq, not_false_eq_true, cat_u, lit_strL, List.append_assoc, f0, f1, f2, f7, ho, U3, U9, U37, U24, U44, U25, U32, U22, U23, T3, len_txt, boxO, zeroX_at, T46, P46, fr46_5, fr46_6, Q24, Q44, Q25, Q32, fr97_3, fr97_4, fr97_5, fr97_10, fr99_2, P3, P9, d1, rv18, Tryd.f18]
        exact ⟨n, hn, rfl⟩
    · exact ⟨0, n, ⟨hn1, hn2⟩, by omega, by omega, by simp -implicitDefEqProofs only [↓zD, zU, Nat.zero_mul, Nat.reduceMul, List.length_map, Tk.nm.injEq, Tk.cell.injEq, false_and, and_false, Nat.le_add_right, Nat.le_refl, ↓reduceIte, Bool.or_false, Bool.false_or, Bool.and_true, Bool.true_and, Bool.false_and, Bool.true_or, Bool.or_true, Option.isNone_none, Option.isNone_some, List.any_cons, List.any_nil, Bool.and_false, Nat.reduceBEq, Nat.reduceLeDiff, Int.reduceLT, Int.reduceEq, Int.reduceLE, Int.reduceAdd, Int.reduceToNat, Int.reduceNeg, Int.cast_ofNat_Int, Nat.reduceLT, List.drop_succ_cons, List.take_succ_cons, List.singleton_append, Nat.zero_add, List.set_cons_zero, List.set_cons_succ, List.drop_nil, List.take_nil, Option.map_some, Option.map_none, Option.getD_some, Option.getD_none, Option.bind_some, List.cons_append, List.nil_append, List.append_nil, List.map_cons, List.map_nil, List.range_zero, List.take_zero, List.flatten_nil, List.filter_nil, List.length_nil, List.length_cons, List.drop_zero, List.not_mem_nil, List.mem_cons, Bool.true_eq_false, Bool.false_eq_true, Nat.reduceEqDiff, Nat.reduceAdd, List.getElem?_toArray, List.toList_toArray, List.getElem?_cons_zero, List.getElem?_cons_succ, decide_eq_true_eq, beq_self_eq_true, beq_true, beq_false, decide_true, decide_false, Bool.not_true, Bool.not_false, true_and, and_true, or_false, false_or, Bool.and_eq_true, reduceCtorEq, not_false_eq_true, Z1u], by simp -implicitDefEqProofs only [↓zD, zU, Nat.zero_mul, Nat.reduceMul, List.length_map, Tk.nm.injEq, Tk.cell.injEq, false_and, and_false, Nat.le_add_right, Nat.le_refl, ↓reduceIte, Bool.or_false, Bool.false_or, Bool.and_true, Bool.true_and, Bool.false_and, Bool.true_or, Bool.or_true, Option.isNone_none, Option.isNone_some, List.any_cons, List.any_nil, Bool.and_false, Nat.reduceBEq, Nat.reduceLeDiff, Int.reduceLT, Int.reduceEq, Int.reduceLE, Int.reduceAdd, Int.reduceToNat, Int.reduceNeg, Int.cast_ofNat_Int, Nat.reduceLT, List.drop_succ_cons, List.take_succ_cons, List.singleton_append, Nat.zero_add, List.set_cons_zero, List.set_cons_succ, List.drop_nil, List.take_nil, Option.map_some, Option.map_none, Option.getD_some, Option.getD_none, Option.bind_some, List.cons_append, List.nil_append, List.append_nil, List.map_cons, List.map_nil, List.range_zero, List.take_zero, List.flatten_nil, List.filter_nil, List.length_nil, List.length_cons, List.drop_zero, List.not_mem_nil, List.mem_cons, Bool.true_eq_false, Bool.false_eq_true, Nat.reduceEqDiff, Nat.reduceAdd, List.getElem?_toArray, List.toList_toArray, List.getElem?_cons_zero, List.getElem?_cons_succ, decide_eq_true_eq, beq_self_eq_true, beq_true, beq_false, decide_true, decide_false, Bool.not_true, Bool.not_false, true_and, and_true, or_false, false_or, Bool.and_eq_true, reduceCtorEq, not_false_eq_true, Z1u], by simp -implicitDefEqProofs only [↓zD, zU, Nat.zero_mul, Nat.reduceMul, List.length_map, Tk.nm.injEq, Tk.cell.injEq, false_and, and_false, Nat.le_add_right, Nat.le_refl, ↓reduceIte, Bool.or_false, Bool.false_or, Bool.and_true, Bool.true_and, Bool.false_and, Bool.true_or, Bool.or_true, Option.isNone_none, Option.isNone_some, List.any_cons, List.any_nil, Bool.and_false, Nat.reduceBEq, Nat.reduceLeDiff, Int.reduceLT, Int.reduceEq, Int.reduceLE, Int.reduceAdd, Int.reduceToNat, Int.reduceNeg, Int.cast_ofNat_Int, Nat.reduceLT, List.drop_succ_cons, List.take_succ_cons, List.singleton_append, Nat.zero_add, List.set_cons_zero, List.set_cons_succ, List.drop_nil, List.take_nil, Option.map_some, Option.map_none, Option.getD_some, Option.getD_none, Option.bind_some, List.cons_append, List.nil_append, List.append_nil, List.map_cons, List.map_nil, List.range_zero, List.take_zero, List.flatten_nil, List.filter_nil, List.length_nil, List.length_cons, List.drop_zero, List.not_mem_nil, List.mem_cons, Bool.true_eq_false, Bool.false_eq_true, Nat.reduceEqDiff, Nat.reduceAdd, List.getElem?_toArray, List.toList_toArray, List.getElem?_cons_zero, List.getElem?_cons_succ, decide_eq_true_eq, beq_self_eq_true, beq_true, beq_false, decide_true, decide_false, Bool.not_true, Bool.not_false, true_and, and_true, or_false, false_or, Bool.and_eq_true, reduceCtorEq, not_false_eq_true, Z1u], by simp -implicitDefEqProofs only [↓zD, zU, Nat.zero_mul, Nat.reduceMul, List.length_map, Tk.nm.injEq, Tk.cell.injEq, false_and, and_false, Nat.le_add_right, Nat.le_refl, ↓reduceIte, Bool.or_false, Bool.false_or, Bool.and_true, Bool.true_and, Bool.false_and, Bool.true_or, Bool.or_true, Option.isNone_none, Option.isNone_some, List.any_cons, List.any_nil, Bool.and_false, Nat.reduceBEq, Nat.reduceLeDiff, Int.reduceLT, Int.reduceEq, Int.reduceLE, Int.reduceAdd, Int.reduceToNat, Int.reduceNeg, Int.cast_ofNat_Int, Nat.reduceLT, List.drop_succ_cons, List.take_succ_cons, List.singleton_append, Nat.zero_add, List.set_cons_zero, List.set_cons_succ, List.drop_nil, List.take_nil, Option.map_some, Option.map_none, Option.getD_some, Option.getD_none, Option.bind_some, List.cons_append, List.nil_append, List.append_nil, List.map_cons, List.map_nil, List.range_zero, List.take_zero, List.flatten_nil, List.filter_nil, List.length_nil, List.length_cons, List.drop_zero, List.not_mem_nil, List.mem_cons, Bool.true_eq_false, Bool.false_eq_true, Nat.reduceEqDiff, Nat.reduceAdd, List.getElem?_toArray, List.toList_toArray, List.getElem?_cons_zero, List.getElem?_cons_succ, decide_eq_true_eq, beq_self_eq_true, beq_true, beq_false, decide_true, decide_false, Bool.not_true, Bool.not_false, true_and, and_true, or_false, false_or, Bool.and_eq_true, reduceCtorEq, not_false_eq_true, Z1u] <;> rfl, by simp -implicitDefEqProofs only [↓zD, zU, Nat.zero_mul, Nat.reduceMul, List.length_map, Tk.nm.injEq, Tk.cell.injEq, false_and, and_false, Nat.le_add_right, Nat.le_refl, ↓reduceIte, Bool.or_false, Bool.false_or, Bool.and_true, Bool.true_and, Bool.false_and, Bool.true_or, Bool.or_true, Option.isNone_none, Option.isNone_some, List.any_cons, List.any_nil, Bool.and_false, Nat.reduceBEq, Nat.reduceLeDiff, Int.reduceLT, Int.reduceEq, Int.reduceLE, Int.reduceAdd, Int.reduceToNat, Int.reduceNeg, Int.cast_ofNat_Int, Nat.reduceLT, List.drop_succ_cons, List.take_succ_cons, List.singleton_append, Nat.zero_add, List.set_cons_zero, List.set_cons_succ, List.drop_nil, List.take_nil, Option.map_some, Option.map_none, Option.getD_some, Option.getD_none, Option.bind_some, List.cons_append, List.nil_append, List.append_nil, List.map_cons, List.map_nil, List.range_zero, List.take_zero, List.flatten_nil, List.filter_nil, List.length_nil, List.length_cons, List.drop_zero, List.not_mem_nil, List.mem_cons, Bool.true_eq_false, Bool.false_eq_true, Nat.reduceEqDiff, Nat.reduceAdd, List.getElem?_toArray, List.toList_toArray, List.getElem?_cons_zero, List.getElem?_cons_succ, decide_eq_true_eq, beq_self_eq_true, beq_true, beq_false, decide_true, decide_false, Bool.not_true, Bool.not_false, true_and, and_true, or_false, false_or, Bool.and_eq_true, reduceCtorEq, not_false_eq_true, Z1u]⟩
  obtain ⟨r, hr⟩ := key
  have hr2 : -2000000 ≤ r ∧ r ≤ 600 := by
    obtain ⟨_, _, _, _, h, _⟩ := hr
    exact h
  exact ⟨r, hr2, by_body rfl ok18 rfl ar18 rfl (WC_mono hr fun _ _ h => h.2)⟩
theorem spent30 : ∀ d : Nat, d ≤ 1000 → S30 d
  | 0, hd => spent30_step 0 hd (fun _ h => by omega)
  | d + 1, hd => spent30_step (d + 1) hd fun d' e => by
    obtain rfl : d = d' := by omega
    exact spent30 d (by omega)
set_option maxRecDepth 100000 in
theorem large30 (cs : List C) (m : Nat) (h : Pl Tryd.prog 34 cs m) (hm : m ≤ 1048575) : ∃ b : Bool, G1 6 [.of (.agg cs)] (xbool b) := by
  obtain ⟨g, rfl, _⟩ := decP h
  have hp : Pl Tryd.prog 23 [.sl (pnG g) 1] (m + 1) := by
    have := Pl.slice (P := Tryd.prog) (t := 23) (e := 34) (ps := [pnG g]) (ws := [m]) (m := m + 1) (n := 1) Tryd.underlying23 rfl rfl (fun i h1 h2 => by
      obtain rfl : i = 0 := by simpa using h1
      exact h) (fun i h1 => by
      obtain rfl : i = 0 := by simpa using h1
      rfl) (fun i h2 => by
      obtain rfl : i = 0 := by simpa using h2
      exact h.pos) (by simp)
    simpa using this
  obtain ⟨r, hr, hg⟩ := spent30 20 (by omega) _ _ hp (by omega) 300 (by omega) (by omega)
  refine ⟨decide (r ≤ 0), ?_⟩
  have x1 : ∀ K, CallK Tryd.prog pr 18 [.of (.sl (pnG g) 1), .of (ci 300), .of (ci 20)] [] K ↔ K ⟨false, [xint r], []⟩ := fun K => Gives.k hg K
  have hb : ∀ tk, buildSliceX tk 1 (Pe.elemOf (TT.of Tryd.prog) 23) (some [(0, (pnG g).map .of)]) = out (.own tk 34 23 (pnG g) 1) := fun tk => bs_one E23 (by decide) (by decide) rfl tk (pnG g) rfl
  unfold pnG at x1 hb ⊢
  simp only [List.map_cons, List.map_nil] at hb
  refine by_body rfl ok6 body6 ar6 rfl ?_
  simp -implicitDefEqProofs (maxSteps := 1000000) only [Tryd.f6, ↓zD, zU, Nat.zero_mul, Nat.reduceMul, List.length_map, Tk.nm.injEq, Tk.cell.injEq, false_and, and_false, Nat.le_add_right, Nat.le_refl, ↓reduceIte, Bool.or_false, Bool.false_or, Bool.and_true, Bool.true_and, Bool.false_and, Bool.true_or, Bool.or_true, Option.isNone_none, Option.isNone_some, List.any_cons, List.any_nil, Bool.and_false, Nat.reduceBEq, Nat.reduceLeDiff, Int.reduceLT, Int.reduceEq, Int.reduceLE, Int.reduceAdd, Int.reduceToNat, Int.reduceNeg, Int.cast_ofNat_Int, Nat.reduceLT, List.drop_succ_cons, List.take_succ_cons, List.singleton_append, Nat.zero_add, List.set_cons_zero, List.set_cons_succ, List.drop_nil, List.take_nil, Option.map_some, Option.map_none, Option.getD_some, Option.getD_none, Option.bind_some, List.cons_append, List.nil_append, List.append_nil, List.map_cons, List.map_nil, List.range_zero, List.take_zero, List.flatten_nil, List.filter_nil, List.length_nil, List.length_cons, List.drop_zero, List.not_mem_nil, List.mem_cons, Bool.true_eq_false, Bool.false_eq_true, Nat.reduceEqDiff, Nat.reduceAdd, List.getElem?_toArray, List.toList_toArray, List.getElem?_cons_zero, List.getElem?_cons_succ, decide_eq_true_eq, beq_self_eq_true, beq_true, beq_false, decide_true, decide_false, Bool.not_true, Bool.not_false, true_and, and_true, or_false, false_or, Bool.and_eq_true, reduceCtorEq, not_false_eq_true, cat_u, lit_strL, List.append_assoc, rv6, boxO, zeroX_at, T46, P46, fr46_5, fr46_6, Q24, Q44, Q25, Q32, fr97_3, fr97_4, fr97_5, fr97_10, fr99_2, P3, P9, fr34_3, fr34_4, fr34_5, fr34_6, fr34_7, Q22, Q23, T34, P34, U3, U9, U37, U24, U44, U25, U32, U22, U23, T3, len_txt, hb, x1, pr_obj, obj18, call18]
end Go.Proofs.YtfndkemgjhajnaaDoor
namespace Go.Proofs.YtfndkemgjhajnaaDoor
open Go Go.Pe Go.Tab
set_option linter.unusedSectionVars false

theorem build_st (P : Program) (t n b : Nat) (a : Bool) (fs : Array Field) (z : List Value) (fl : List (Nat × Nat)) (qs : List (Nat × List X)) : buildX P t (some ⟨.struct fs, n, b, a, z, fl⟩) (some qs) = outO ((fillX (fun i => fl[i]?) (zeroX ⟨.struct fs, n, b, a, z, fl⟩) qs).map .agg) := rfl
theorem rd_aggx (xs : List X) : X.rd (.agg xs) = (X.rds xs).map .agg := by
  simp only [X.rd]
theorem bs_g1 {T : TT} {t e z : Nat} {d : TD} (h : Pe.elemOf T t = some (e, d)) (hz : d.size = z) (hz0 : 0 < z) (hz2 : z ≤ 1000) (hl : d.zero.length = z) (tk : Tk) (xs : List X) (hc : xs.length = z) : buildSliceX tk 1 (Pe.elemOf T t) (some [(0, xs)]) = outO ((X.rds xs).map fun cs => .own tk e z cs 1) := by
  have hzl : (zeroX d).length = z := by simp [zeroX, hl]
  rw [h]
  simp only [buildSliceX, hz]
  rw [if_pos ⟨by omega, hz0, hl⟩]
  simp only [fillX, List.replicate_one, List.flatten_singleton, Nat.zero_mul, Nat.zero_add, hc, hzl, Nat.le_refl, and_self, if_true, List.take_zero, List.nil_append]
  rw [List.drop_of_length_le (by omega), List.append_nil]
  cases X.rds xs <;> rfl
theorem bs_g2 {T : TT} {t e z : Nat} {d : TD} (h : Pe.elemOf T t = some (e, d)) (hz : d.size = z) (hz0 : 0 < z) (hz2 : z ≤ 1000) (hl : d.zero.length = z) (tk : Tk) (xs ys : List X) (hc : xs.length = z) (hc2 : ys.length = z) : buildSliceX tk 2 (Pe.elemOf T t) (some [(0, xs), (1, ys)]) = outO ((X.rds (xs ++ ys)).map fun cs => .own tk e z cs 2) := by
  have hzl : (zeroX d).length = z := by simp [zeroX, hl]
  have e2 : (List.replicate 2 (zeroX d)).flatten = zeroX d ++ zeroX d := by simp [List.replicate_succ]
  rw [h]
  simp only [buildSliceX, hz]
  rw [if_pos ⟨by omega, hz0, hl⟩, e2]
  simp only [fillX, Nat.zero_mul, Nat.zero_add, Nat.one_mul, hc, hc2, List.length_append, hzl, List.take_zero, List.nil_append, true_and]
  rw [if_pos (by omega)]
  have e3 : (zeroX d ++ zeroX d).drop z = zeroX d := List.drop_left' hzl
  rw [e3]
  rw [if_pos (by simp only [List.length_append, hc, hzl]; omega)]
  have e4 : (xs ++ zeroX d).take z = xs := List.take_left' hc
  rw [e4, List.drop_of_length_le (by simp only [List.length_append, hc, hzl]; omega), List.append_nil]
  cases h9 : X.rds (xs ++ ys) <;> simp only [h9] <;> rfl
set_option maxRecDepth 100000 in
theorem num_call (n : Int) : G1 37 [.of (ci n)] (.agg [.of (ci 2), .of (ci n), .of (cstr (strL []))]) := by
  refine by_body rfl ok37 body37 ar37 rfl ?_
  simp -implicitDefEqProofs (maxSteps := 1000000) only [Tryd.f37, ↓zD, zU, Nat.zero_mul, Nat.reduceMul, List.length_map, Tk.nm.injEq, Tk.cell.injEq, false_and, and_false, Nat.le_add_right, Nat.le_refl, ↓reduceIte, Bool.or_false, Bool.false_or, Bool.and_true, Bool.true_and, Bool.false_and, Bool.true_or, Bool.or_true, Option.isNone_none, Option.isNone_some, List.any_cons, List.any_nil, Bool.and_false, Nat.reduceBEq, Nat.reduceLeDiff, Int.reduceLT, Int.reduceEq, Int.reduceLE, Int.reduceAdd, Int.reduceToNat, Int.reduceNeg, Int.cast_ofNat_Int, Nat.reduceLT, List.drop_succ_cons, List.take_succ_cons, List.singleton_append, Nat.zero_add, List.set_cons_zero, List.set_cons_succ, List.drop_nil, List.take_nil, Option.map_some, Option.map_none, Option.getD_some, Option.getD_none, Option.bind_some, List.cons_append, List.nil_append, List.append_nil, List.map_cons, List.map_nil, List.range_zero, List.take_zero, List.flatten_nil, List.filter_nil, List.length_nil, List.length_cons, List.drop_zero, List.not_mem_nil, List.mem_cons, Bool.true_eq_false, Bool.false_eq_true, Nat.reduceEqDiff, Nat.reduceAdd, List.getElem?_toArray, List.toList_toArray, List.getElem?_cons_zero, List.getElem?_cons_succ, decide_eq_true_eq, beq_self_eq_true, beq_true, beq_false, decide_true, decide_false, Bool.not_true, Bool.not_false, true_and, and_true, or_false, false_or, Bool.and_eq_true, reduceCtorEq, not_false_eq_true, cat_u, lit_strL, List.append_assoc, rv37, boxO, zeroX_at, build_st, T54, T46, P46, T34, P34, T43, P43, T27, P3, P9, bs_g1 E24 rfl (by decide) (by decide) rfl, bs_g2 E24 rfl (by decide) (by decide) rfl, bs_g2 E22 rfl (by decide) (by decide) rfl, bs_g1 E23 rfl (by decide) (by decide) rfl, bs_g2 E27 rfl (by decide) (by decide) rfl, X.rds, rd_aggx, U3, U9, U37, U24, U22, U23, T9, T3, T37, len_txt, pc_t]
  rfl
set_option maxRecDepth 100000 in
theorem less_call (a n : Int) : G1 19 [.of (ci a), .of (ci n)] (.agg [.of (ci 13), .of (ci 0), .of (ci 0), .of (cstr (strL [])), .of (ci 0), .of (ci 0), .of (cstr (strL [])), .own (.nm 0 0 0) 46 10 [ci 2, ci 0, ci 0, cstr (strL []), ci 0, ci a, cstr (strL []), .sl [] 0, .sl [] 0, ci 2, ci 1, ci 2, ci n, cstr (strL []), ci 0, ci 0, cstr (strL []), .sl [] 0, .sl [] 0, ci 2] 2, .nil, .of (ci 1)]) := by
  have x1 := fun K => Gives.k (num_call n) K
  refine by_body rfl ok19 body19 ar19 rfl ?_
  simp -implicitDefEqProofs (maxSteps := 1000000) only [Tryd.f19, ↓zD, zU, Nat.zero_mul, Nat.reduceMul, List.length_map, Tk.nm.injEq, Tk.cell.injEq, false_and, and_false, Nat.le_add_right, Nat.le_refl, ↓reduceIte, Bool.or_false, Bool.false_or, Bool.and_true, Bool.true_and, Bool.false_and, Bool.true_or, Bool.or_true, Option.isNone_none, Option.isNone_some, List.any_cons, List.any_nil, Bool.and_false, Nat.reduceBEq, Nat.reduceLeDiff, Int.reduceLT, Int.reduceEq, Int.reduceLE, Int.reduceAdd, Int.reduceToNat, Int.reduceNeg, Int.cast_ofNat_Int, Nat.reduceLT, List.drop_succ_cons, List.take_succ_cons, List.singleton_append, Nat.zero_add, List.set_cons_zero, List.set_cons_succ, List.drop_nil, List.take_nil, Option.map_some, Option.map_none, Option.getD_some, Option.getD_none, Option.bind_some, List.cons_append, List.nil_append, List.append_nil, List.map_cons, List.map_nil, List.range_zero, List.take_zero, List.flatten_nil, List.filter_nil, List.length_nil, List.length_cons, List.drop_zero, List.not_mem_nil, List.mem_cons, Bool.true_eq_false, Bool.false_eq_true, Nat.reduceEqDiff, Nat.reduceAdd, List.getElem?_toArray, List.toList_toArray, List.getElem?_cons_zero, List.getElem?_cons_succ, decide_eq_true_eq, beq_self_eq_true, beq_true, beq_false, decide_true, decide_false, Bool.not_true, Bool.not_false, true_and, and_true, or_false, false_or, Bool.and_eq_true, reduceCtorEq, not_false_eq_true, cat_u, lit_strL, List.append_assoc, rv19, boxO, zeroX_at, build_st, T54, T46, P46, T34, P34, T43, P43, T27, P3, P9, bs_g1 E24 rfl (by decide) (by decide) rfl, bs_g2 E24 rfl (by decide) (by decide) rfl, bs_g2 E22 rfl (by decide) (by decide) rfl, bs_g1 E23 rfl (by decide) (by decide) rfl, bs_g2 E27 rfl (by decide) (by decide) rfl, X.rds, rd_aggx, U3, U9, U37, U24, U22, U23, T9, T3, T37, len_txt, pc_t, x1, pr_obj, obj37, call37]
  rfl
def awCols : List Cl := [⟨[], [97], 0⟩, ⟨[116], [98], 0⟩]
def awT (op : Int) (v : V) (a : Int) (ks : List Tm) (ty : Int) : Tm := .mk op v 0 a [] ks (.sl [] 0) ty
def awLess : Tm := awT 13 ⟨0, 0, strL []⟩ 0 [awT 2 ⟨0, 0, strL []⟩ 0 [] 2, awT 1 ⟨2, 3, strL []⟩ 0 [] 2] 1
def awR : Nat → C := nth [.sl [] 0, .sl [] 0, .sl [] 0, cb false, cb false, .sl [] 0, cb false, cb false, .sl [] 0, ci 0, ci 0, cb false, .sl [] 0]
def awP : Pn := .mk 1 [116] [] awCols [] [awLess] [] [] awR 4 20
def awS : Pn := .mk 16 [] [] [] [awP] [] [] [] awR 0 0
def awSum : Tm := awT 5 ⟨0, 0, strL []⟩ 0 [awT 2 ⟨0, 0, strL []⟩ 0 [] 0, awT 2 ⟨0, 0, strL []⟩ 1 [] 0] 0
theorem it_small {n : Nat} (h : n < 10) : Lib.itoa (n : Int) = [UInt8.ofNat (48 + n)] := by
  unfold Lib.itoa
  rw [if_neg (by omega), Int.toNat_natCast, Lib.decDigits, dif_pos h]
theorem it_20 : Lib.itoa 20 = [50, 48] := by
  unfold Lib.itoa
  rw [if_neg (by decide), Lib.decDigits, dif_neg (by decide), Lib.decDigits, dif_pos (by decide)]
  decide
theorem it_0 : Lib.itoa 0 = [48] := it_small (n := 0) (by decide)
theorem it_2 : Lib.itoa 2 = [50] := it_small (n := 2) (by decide)
theorem it_3 : Lib.itoa 3 = [51] := it_small (n := 3) (by decide)
theorem it_4 : Lib.itoa 4 = [52] := it_small (n := 4) (by decide)
theorem tx_3 : textL ⟨2, 3, strL []⟩ = [51] := by
  unfold textL textS
  simp only [it_3]
  rfl
theorem aw_less : textF awCols awLess = [40, 97, 32, 60, 32, 51, 41] := by
  simp only [awLess, awT, textF, textsF, opText, tx_3, awCols]
  rfl
theorem aw_sum : textF awCols awSum = [40, 97, 32, 43, 32, 116, 46, 98, 41] := by
  simp only [awSum, awT, textF, textsF, opText, awCols]
  rfl
theorem aw_l1 : lineL awP [50] = [115, 99, 97, 110, 32, 116, 32, 91, 40, 97, 32, 60, 32, 51, 41, 93, 32, 101, 115, 116, 32, 52, 32, 99, 111, 115, 116, 32, 50, 48, 32, 114, 111, 119, 115, 32, 50] := by
  have h1 : innerC awP = awCols := rfl
  have h3 : termsL awP [awLess] = [91, 40, 97, 32, 60, 32, 51, 41, 93] := by
    unfold termsL
    rw [h1]
    simp only [textsF, aw_less]
    rfl
  unfold awP at h3 ⊢
  rw [lineL_eq, h3, it_4, it_20]
  rfl
theorem aw_l0 : lineL awS [50] = [115, 111, 114, 116, 32, 101, 115, 116, 32, 48, 32, 99, 111, 115, 116, 32, 48, 32, 114, 111, 119, 115, 32, 50] := by
  unfold awS
  rw [lineL_eq, it_0]
  rfl
theorem aw_lines : underF [2, 2] 0 0 awS = [[115, 111, 114, 116, 32, 101, 115, 116, 32, 48, 32, 99, 111, 115, 116, 32, 48, 32, 114, 111, 119, 115, 32, 50], [32, 32, 115, 99, 97, 110, 32, 116, 32, 91, 40, 97, 32, 60, 32, 51, 41, 93, 32, 101, 115, 116, 32, 52, 32, 99, 111, 115, 116, 32, 50, 48, 32, 114, 111, 119, 115, 32, 50]] := by
  have e : underF [2, 2] 0 0 awS = [blanks 0 ++ lineL awS (rowsL [2, 2] 0), blanks 1 ++ lineL awP (rowsL [2, 2] 1)] := by
    unfold awS
    rw [underF]
    simp only [undersF, List.append_nil]
    unfold awP
    rw [underF]
    simp only [undersF]
  rw [e, show rowsL [2, 2] 0 = [50] from it_2, show rowsL [2, 2] 1 = [50] from it_2, aw_l0, aw_l1]
  rfl
theorem aw_okT (op : Int) (v : V) (a : Int) (ks : List Tm) (ty : Int) (h1 : I64 op) (h2 : I64 v.k) (h3 : I64 v.n) (h4 : v.s.size ≤ 1048576) (h5 : I64 a) (h6 : ks.length ≤ 1048576) (h7 : TmsOk ks) : TmOk (awT op v a ks ty) := by
  unfold awT
  rw [TmOk]
  exact ⟨h1, h2, h3, h4, by unfold I64; decide, h5, by decide, h6, h7⟩
theorem aw_i (n : Int) (h : -100 ≤ n ∧ n ≤ 100) : I64 n := by unfold I64; omega
theorem aw_ls : TmOk awLess := by
  refine aw_okT _ _ _ _ _ (aw_i _ (by decide)) (aw_i _ (by decide)) (aw_i _ (by decide)) (by decide) (aw_i _ (by decide)) (by decide) ?_
  simp only [TmsOk, and_true]
  exact ⟨aw_okT _ _ _ _ _ (aw_i _ (by decide)) (aw_i _ (by decide)) (aw_i _ (by decide)) (by decide) (aw_i _ (by decide)) (by decide) trivial, aw_okT _ _ _ _ _ (aw_i _ (by decide)) (aw_i _ (by decide)) (aw_i _ (by decide)) (by decide) (aw_i _ (by decide)) (by decide) trivial⟩
theorem aw_sm : TmOk awSum := by
  refine aw_okT _ _ _ _ _ (aw_i _ (by decide)) (aw_i _ (by decide)) (aw_i _ (by decide)) (by decide) (aw_i _ (by decide)) (by decide) ?_
  simp only [TmsOk, and_true]
  exact ⟨aw_okT _ _ _ _ _ (aw_i _ (by decide)) (aw_i _ (by decide)) (aw_i _ (by decide)) (by decide) (aw_i _ (by decide)) (by decide) trivial, aw_okT _ _ _ _ _ (aw_i _ (by decide)) (aw_i _ (by decide)) (aw_i _ (by decide)) (by decide) (aw_i _ (by decide)) (by decide) trivial⟩
theorem aw_p : PnOk awP := by
  rw [awP, PnOk]
  exact ⟨aw_i _ (by decide), aw_i _ (by decide), aw_i _ (by decide), by simp only [TmsOk, and_true]; exact aw_ls, trivial, trivial, trivial⟩
theorem aw_s : PnOk awS := by
  rw [awS, PnOk]
  exact ⟨aw_i _ (by decide), aw_i _ (by decide), aw_i _ (by decide), trivial, trivial, trivial, by simp only [PnsOk, and_true]; exact aw_p⟩
theorem aw_pw : pnWt awP ≤ 1048576 := by decide
theorem aw_sw : pnWt awS ≤ 1048576 := by decide
theorem aw_tw : awSum.wt ≤ 1048576 := by decide
theorem aw_cw : ClsOk awCols := clsOk_wt (by decide)
set_option maxRecDepth 100000 in
set_option maxHeartbeats 1000000 in
theorem awake_call : G1 7 [] (xbool true) := by
  have x1 := fun K => Gives.k (less_call 0 3) K
  have x2 := fun K => Gives.k (exlines_call awS [2, 2] aw_sw aw_s (fun n hn => by simp only [List.mem_cons, List.not_mem_nil, or_false] at hn; rcases hn with rfl | rfl <;> exact aw_i _ (by decide))) K
  have x3 := fun K => Gives.k (exnodes_call 1048576 awP aw_pw (Nat.le_refl _)) K
  have x4 := fun K => Gives.k (exterm_call awCols aw_cw 1048576 awSum aw_tw (Nat.le_refl _) aw_sm) K
  rw [aw_lines] at x2
  rw [aw_sum] at x4
  rw [show nodesN awP = 1 from rfl] at x3
  simp only [awS, awP, awLess, awSum, awT, awR, awCols, pnC, pnsC, tmC, tmsC, colsC, termsC, clC, intsC, nth, List.getD_eq_getElem?_getD, List.map_cons, List.map_nil, List.flatten_cons, List.flatten_nil, List.cons_append, List.nil_append, List.append_nil, List.length_cons, List.length_nil, Nat.zero_add, Nat.reduceAdd, List.getElem?_cons_zero, List.getElem?_cons_succ, Option.getD_some, Int.cast_ofNat_Int, txO] at x2 x3 x4
  refine by_body rfl ok7 body7 ar7 rfl ?_
  simp -implicitDefEqProofs (maxSteps := 1000000) only [Tryd.f7, ↓zD, zU, Nat.zero_mul, Nat.reduceMul, List.length_map, Tk.nm.injEq, Tk.cell.injEq, false_and, and_false, Nat.le_add_right, Nat.le_refl, ↓reduceIte, Bool.or_false, Bool.false_or, Bool.and_true, Bool.true_and, Bool.false_and, Bool.true_or, Bool.or_true, Option.isNone_none, Option.isNone_some, List.any_cons, List.any_nil, Bool.and_false, Nat.reduceBEq, Nat.reduceLeDiff, Int.reduceLT, Int.reduceEq, Int.reduceLE, Int.reduceAdd, Int.reduceToNat, Int.reduceNeg, Int.cast_ofNat_Int, Nat.reduceLT, List.drop_succ_cons, List.take_succ_cons, List.singleton_append, Nat.zero_add, List.set_cons_zero, List.set_cons_succ, List.drop_nil, List.take_nil, Option.map_some, Option.map_none, Option.getD_some, Option.getD_none, Option.bind_some, List.cons_append, List.nil_append, List.append_nil, List.map_cons, List.map_nil, List.range_zero, List.take_zero, List.flatten_nil, List.filter_nil, List.length_nil, List.length_cons, List.drop_zero, List.not_mem_nil, List.mem_cons, Bool.true_eq_false, Bool.false_eq_true, Nat.reduceEqDiff, Nat.reduceAdd, List.getElem?_toArray, List.toList_toArray, List.getElem?_cons_zero, List.getElem?_cons_succ, decide_eq_true_eq, beq_self_eq_true, beq_true, beq_false, decide_true, decide_false, Bool.not_true, Bool.not_false, true_and, and_true, or_false, false_or, Bool.and_eq_true, reduceCtorEq, not_false_eq_true, cat_u, lit_strL, List.append_assoc, rv7, boxO, zeroX_at, build_st, T54, T46, P46, T34, P34, T43, P43, T27, P3, P9, bs_g1 E24 rfl (by decide) (by decide) rfl, bs_g2 E24 rfl (by decide) (by decide) rfl, bs_g2 E22 rfl (by decide) (by decide) rfl, bs_g1 E23 rfl (by decide) (by decide) rfl, bs_g2 E27 rfl (by decide) (by decide) rfl, X.rds, rd_aggx, U3, U9, U37, U24, U22, U23, T9, T3, T37, len_txt, pc_t, x1, x2, x3, x4, pr_obj, obj19, call19, obj8, call8, obj11, call11, obj14, call14, ia_o0, ia_o1, strL_eq]
end Go.Proofs.YtfndkemgjhajnaaDoor
namespace Go.Proofs.YtfndkemgjhajnaaDoor
open Go Go.Pe Go.Tab
set_option linter.unusedSectionVars false

theorem awake_k (K : An → Prop) : CallK Tryd.prog pr 7 [] [] K ↔ K ⟨false, [xbool true], []⟩ := Gives.k awake_call K
end Go.Proofs.YtfndkemgjhajnaaDoor
namespace Go.Proofs.YtfndkemgjhajnaaDoor.card
open Go Go.Pe Go.Tab Go.RowKit Go.ChangeShapes Go.WideShapes Go.ChangeAt Go.Proofs.YtfndkemgjhajnaaDoor

theorem own : ownKnob Tryd.prog.godebug = none := by kernel_rfl
theorem laidOut : laidOutB Tryd.prog = true := by kernel_rfl
theorem gTab : Tryd.prog.globalNamed tabName = some 1 := by kernel_rfl
theorem gTabType : (Tryd.prog.globals[1]?).map (·.type) = some 124 := by kernel_rfl
theorem cellsTab : Tryd.prog.cellsOf 124 = 20 := by kernel_rfl
theorem cellsU64 : Tryd.prog.cellsOf 106 = 1 := by kernel_rfl
/-- The table, out of the row's list; the one other variable that is read holds some number. -/
theorem table {W : World} {laid : List (String × DataW Unit)} (hf : (laid.filter fun x => x.1 == tabName) = [(tabName, Lib.tabData .u64 Lib.pow10Tab)]) (h : laidMet Tryd.prog laid W) (hs : W.ShapedOpen Tryd.prog) : GT.holds W := by
  have h2 := h.filter fun x => x.1 == tabName
  rw [hf] at h2
  exact ⟨Lib.tabIs_of_head (rest := []) gTab gTabType Tryd.underlying124 Tryd.underlying106 cellsU64 cellsTab h2,
    Go.Proofs.cell_of_shapedOpen_int (zero := #[.int .i64 0]) (t := 3) hs (of_decide_eq_true (by kernel_rfl)) (by kernel_rfl) rfl (by kernel_rfl) (by kernel_rfl) Tryd.underlying3⟩
theorem trodAll_stays {H : Type} {enc : TypeId × Value → H} {W W' : World} {sp : Nat → Bool} : ∀ {ts : List TypeId} {vs : List Value} {ds : List (DataW H)} {ps : List MemPlace}, (∀ t ∈ ts, Tryd.prog.readableRec t = true ∧ t < Tryd.prog.types.size) →
    DataW.TrodAll enc Tryd.prog W 0 (fun _ => true) true ts vs ds ps → (∀ p ∈ ps, W.sameAt W' p) → (∀ p ∈ ps, sp p.block = true) → DataW.TrodAll enc Tryd.prog W' 0 sp true ts vs ds ps
  | [], [], [], _, _, h, _, _ => h
  | _ :: _, _ :: _, _ :: _, _, hT, ⟨p, q, h1, h2, e⟩, hs, hsp =>
    ⟨p, q, WideElems.Trod_stays laidOut (hT _ (List.mem_cons.2 (.inl rfl))).1 (hT _ (List.mem_cons.2 (.inl rfl))).2 h1 (fun x hx => hs x (by rw [e]; exact List.mem_append_left _ hx)) (fun x hx => hsp x (by rw [e]; exact List.mem_append_left _ hx)),
      trodAll_stays (fun t ht => hT t (List.mem_cons.2 (.inr ht))) h2 (fun x hx => hs x (by rw [e]; exact List.mem_append_right _ hx)) (fun x hx => hsp x (by rw [e]; exact List.mem_append_right _ hx)), e⟩

theorem GTlt {W : World} (h : GT.holds W) {c : Nat} (hc : GT.blk c) : c < W.heap.size := by
  obtain ⟨h1, m, h2⟩ := h
  rcases hc with hc | rfl
  · unfold Lib.TabIs World.var? at h1
    rw [hc] at h1
    simp only [Option.bind_some] at h1
    rcases Nat.lt_or_ge c W.heap.size with h3 | h3
    · exact h3
    · rw [Array.getElem?_eq_none h3] at h1
      cases h1
  · exact World.block_lt_of_cell? (a := ⟨0, 0, none⟩) W h2
theorem plain_gives (hpr : PrSound Tryd.prog GT pr) {f : Nat} {xs : List X} {u : Value} (h : G1 f xs (.of (.lit u))) {fn : Func} (hfn : Tryd.prog.funcs[f]? = some fn) {W : World} (hT : GT.holds W) {m : Mem}
    (hm : ∀ b o v, m b o = some v → W.cell? ⟨b, o, none⟩ = some v ∧ v.oneCell' = true) {vs : List Value} (hvs : RepXs ⟨m, fun _ => none⟩ (fun _ => none) xs vs) :
    Calls Tryd.prog f vs.toArray W fun e W' => e = .returned u ∧ Below W.heap.size W W' := by
  have hG : ¬ ∃ c, Given ⟨m, fun _ => none⟩ (fun _ => none) c := by
    rintro ⟨c, ⟨r, hr⟩ | ⟨t, v, e, z, n, ht, _⟩⟩
    · cases hr
    · cases ht
  have hp : Hp ⟨GT, m, Given ⟨m, fun _ => none⟩ (fun _ => none)⟩ ⟨m, fun _ => none⟩ (fun _ => none) W W [] := {
    good := ⟨hT, fun c hc => ⟨GTlt hT hc, fun hm => hG ⟨c, hm⟩⟩⟩
    below := Keeps.refl _ _
    mem := hm
    obj := fun r ob hr => by simp at hr
    dom := fun r c hr => by cases hr
    inj := fun r r' c hr => by cases hr
    tok := fun t v e z n ht => by cases ht
    tokne := fun t t' v e z n v' e' z' n' ht => by cases ht
    m0 := fun c o v hv _ _ => hv }
  refine (h.sound mixed hpr fn hfn ⟨m, fun _ => none⟩ (fun _ => none) W vs hp (fun t p ht => by cases ht) (fun r off p ht => by cases ht) hvs).mono ?_
  rintro e W' ⟨k', ow', us, he, hp', _, _, _, _, _, hus⟩
  simp only [RepXs, RepX, Rep] at hus
  obtain ⟨v, r, rfl, ⟨rfl, _⟩, rfl⟩ := hus
  refine ⟨he, ?_⟩
  have hb := hp'.below
  exact ⟨hb.os, hb.tape, hb.output, hb.size, fun c hc => hb.block c hc fun hm => hG ⟨c, hm⟩⟩

/-- A call on plain data, as the machine says. -/
def kOf (W : World) : Know := ⟨memOf W, fun _ => none⟩
theorem plain_call {f : Nat} {xs : List X} {b : Bool} (h : G1 f xs (xbool b)) {fn : Func} (hfn : Tryd.prog.funcs[f]? = some fn) {W : World} (hT : GT.holds W) {vs : List Value} (hvs : RepXs (kOf W) (fun _ => none) xs vs) :
    Calls Tryd.prog f vs.toArray W fun e W' => e = .returned (.bool b) ∧ Below W.heap.size W W' :=
  plain_gives pr_sound h hfn hT (fun _ _ _ hv => memOf_mem hv) hvs

set_option maxRecDepth 100000 in
theorem okSl {W : World} {base : Nat} {t e : TypeId} {v : Value} (ht : Tryd.prog.underlying t = some (.slice e)) (h : Value.okWide Tryd.prog W .any base t v) : v.cells.toList = [v] := by
  obtain ⟨a, len, cap, rfl⟩ := okWide_slice ht h
  rfl
/-- A world for the witness: the settled one, the listed tables holding what their initialisers lay. -/
def litsOf : DataW Unit → Array Value
  | .agg l => (l.map fun d => match d with
    | .lit (.int k n) => Value.int k n
    | _ => undef).toArray
  | _ => #[]
def putCells (vs : Array Value) : Obj → Obj
  | .cells _ t frozen => .cells vs t frozen
  | o => o
def litOf1 : DataW Unit → Value
  | .lit (.int k n) => .int k n
  | _ => undef
def litsIn : DataW Unit → List Value
  | .agg l => l.map litOf1
  | d => [litOf1 d]
def litsOf2 : DataW Unit → Array Value
  | .agg l => (l.map litsIn).flatten.toArray
  | _ => #[]
noncomputable def laidWorld (os : Os) : World :=
  { World.holding Tryd.prog os ⟨#[], #[], []⟩ with heap := (((((World.holding Tryd.prog os ⟨#[], #[], []⟩).heap.modify 1 (putCells (litsOf Rows.laid_internal_strconv_uint64pow10))).modify 4 (putCells (litsOf Rows.laid_math_bits_deBruijn32tab))).modify 5 (putCells (litsOf Rows.laid_math_bits_deBruijn64tab))).modify 2 (putCells (litsOf2 Rows.laid_unicode_utf8_first))).modify 3 (putCells (litsOf2 Rows.laid_unicode_utf8_acceptRanges)) }
theorem two_ok {x y : TypeId} (hx : Tryd.prog.readableRec x = true ∧ x < Tryd.prog.types.size) (hy : Tryd.prog.readableRec y = true ∧ y < Tryd.prog.types.size) : ∀ t ∈ [x, y], Tryd.prog.readableRec t = true ∧ t < Tryd.prog.types.size := by
  intro t ht
  simp only [List.mem_cons, List.not_mem_nil, or_false] at ht
  rcases ht with rfl | rfl
  · exact hx
  · exact hy
theorem planOk : Tryd.prog.readableRec 34 = true ∧ 34 < Tryd.prog.types.size := ⟨by kernel_rfl, of_decide_eq_true (by kernel_rfl)⟩
theorem intsOk : Tryd.prog.readableRec 27 = true ∧ 27 < Tryd.prog.types.size := ⟨by kernel_rfl, of_decide_eq_true (by kernel_rfl)⟩
theorem bulk2 {H : Type} {d0 d1 : DataW H} (h : Rows.uptoSmall H [d0, d1] = true) : Rows.uptoBulk d0 ≤ 1048575 ∧ Rows.uptoBulk d1 ≤ 1048575 := by
  have := of_decide_eq_true h
  simp only [Rows.uptoBulkAll] at this
  have h0 := one_le d0
  have h1 := one_le d1
  omega
def flatTs : List TypeId := [3, 4, 9, 43, 54, 22, 46, 24, 97, 44, 99, 25, 149, 26, 29, 32, 31, 34, 23, 27]
theorem flatOk : flatB Tryd.prog flatTs = true := by kernel_rfl
section
variable {H : Type} {enc : TypeId × Value → H} {W : World} {spare : Nat → Bool} {held : Bool} {base : Nat} {v : Value} {d : DataW H} {ps : List MemPlace} {t : TypeId}
set_option maxRecDepth 100000 in
theorem read_agg {fs : Array Field} (hu : Tryd.prog.underlying t = some (.struct fs)) (ht : t ∈ flatTs) (hd : DataW.Trod enc Tryd.prog W 0 spare held t v d ps) (hok : Value.okWide Tryd.prog W .any base t v) : ∃ g : List C, Rep (memOf W) (.agg g) v ∧ Pl Tryd.prog t g (Rows.uptoBulk d) := by
  obtain ⟨cs, rfl, _⟩ := okWide_struct hu hok
  obtain ⟨fuel, h⟩ := hd
  obtain ⟨g, g1, g2, g3⟩ := read_pl flatOk fuel t _ _ ht h
  simp only [Value.cells] at g1 g2
  exact ⟨g, ⟨_, rfl, g2, g1⟩, g3⟩
set_option maxRecDepth 100000 in
theorem read_sl {e : TypeId} (hu : Tryd.prog.underlying t = some (.slice e)) (ht : t ∈ flatTs) (hd : DataW.Trod enc Tryd.prog W 0 spare held t v d ps) (hok : Value.okWide Tryd.prog W .any base t v) : ∃ c : C, Rep (memOf W) c v ∧ Pl Tryd.prog t [c] (Rows.uptoBulk d) := by
  have hone := okSl hu hok
  obtain ⟨fuel, h⟩ := hd
  obtain ⟨g, g1, g2, g3⟩ := read_pl flatOk fuel t _ _ ht h
  rw [hone] at g1
  obtain ⟨c, rfl⟩ := g3.one_inv hu
  obtain ⟨u, r, e, h1, _⟩ := g1
  cases e
  exact ⟨c, h1, g3⟩
end
end Go.Proofs.YtfndkemgjhajnaaDoor.card

/-
  slices.Clone at a row; slices.SortStableFunc at few rows: walked. Conditions: none.
-/
import Derived.Test.YtiepbejeiijpmaaDoorSo2
import Derived.Laws.Cover3
namespace Go.Proofs.YtiepbejeiijpmaaDoor
open Go Go.Pe Go.Tab Go.RowKit Go.Sort Go.Proofs

/-- Memory from a block on, as it is. -/
def memN (lo : Nat) (W : World) : Mem := fun b o => if lo ≤ b then (match W.cell? ⟨b, o, none⟩ with
  | some v => if v.oneCell' = true then some v else none
  | none => none) else none
theorem memN_some {lo b o : Nat} {W : World} {v : Value} (h : memN lo W b o = some v) : lo ≤ b ∧ W.cell? ⟨b, o, none⟩ = some v ∧ v.oneCell' = true := by
  unfold memN at h
  split at h
  · rename_i hl
    split at h
    · split at h
      · rename_i h1 h2
        cases h
        exact ⟨hl, h1, h2⟩
      · cases h
    · cases h
  · cases h
theorem memN_at {lo b o : Nat} {W : World} {v : Value} (hl : lo ≤ b) (h : W.cell? ⟨b, o, none⟩ = some v) (h1 : v.oneCell' = true) : memN lo W b o = some v := by
  unfold memN
  rw [if_pos hl, h]
  simp [h1]
/-- A slice that lies there. -/
theorem rep_sl {m : Mem} {cs : List C} {vs : List Value} {a : Option Addr} {n cap : Nat} (hl : RepL m cs vs) (hc : n ≤ cap) (h : vs ≠ [] → ∃ b o, a = some ⟨b, o, none⟩ ∧ ∀ i u, vs[i]? = some u → m b (o + i) = some u) : Rep m (.sl cs n) (.slice a n cap) :=
  ⟨a, cap, vs, rfl, hc, hl, h⟩
/-- A value's own cells hang on no memory. -/
theorem repL_vals {m m' : Mem} : ∀ (r : List V) (vs : List Value), RepL m (valsC r) vs → RepL m' (valsC r) vs
  | [], vs, h => h
  | v :: r, vs, h => by
    rw [valsC_cons] at h ⊢
    simp only [valC, List.cons_append, List.nil_append, RepL, Rep] at h ⊢
    obtain ⟨a, ra, rfl, h1, b, rb, rfl, h2, c, rc, rfl, h3, h4⟩ := h
    exact ⟨a, _, rfl, h1, b, _, rfl, h2, c, _, rfl, h3, repL_vals r rc h4⟩

theorem row_nil (x : Option Addr) (l c : Nat) (w : World) : (binOp .eql 28 (.slice x l c) (.slice none 0 0)).run Tryd.prog w = .ok (.bool x.isNone) w := by
  simp [binOp, run_equal_slice_nil w 28 34 x l c Tryd.underlying28]
theorem wp_append_any {P : Program} {w : World} {ops : Array Oper} {rest : List Oper} {o : Oper} {a : Act} {Q : Exit → Act → World → Prop} (hgd : o.guard = none) (sl x : Operand) (t : TypeId)
    (ho : o.op = .call { callee := .builtin .append, args := #[sl, x], argTypes := #[t, t] })
    (e : TypeId) (d : TD) (ht : P.underlying t = some (.slice e)) (hd : TT.of P e = some d) (hz : 0 < d.size) (hby : d.bytes ≤ 32768) (B : Nat)
    (v : Value) (n : Nat) (xs : List Value) (hs : a.eval sl = v) (hown : w.ownsRow B e d.size v n xs) (A : Option Addr) (m c : Nat) (news : List Value) (hx : a.eval x = .slice A m c) (hl : news.length = m * d.size)
    (hnews : news ≠ [] → ∃ b o, A = some ⟨b, o, none⟩ ∧ ∀ i u, news[i]? = some u → w.cell? ⟨b, o + i, none⟩ = some u) (h1 : ∀ u ∈ news, u.oneCell' = true) (hb : n + m ≤ LIM) (hB : B ≤ w.heap.size)
    (h : ∀ v' w', w'.ownsRow B e d.size v' (n + m) (xs ++ news) → ((w.grownBy w' v.ownBlock ∧ v'.ownBlock = v.ownBlock) ∨ (w.grownBy w' none ∧ v'.ownBlock = some w.heap.size)) → wpList P ops Q rest (a.put o.dst v') w') : wpList P ops Q (o :: rest) a w := by
  refine wpList_plain hgd fun K hK => ?_
  obtain ⟨v', w', hr, h2, h3⟩ := run_append_at (P := P) (w := w) (t := t) (ty := o.type) (c := c) ht hd hz hown (A := A) (m := m) (news := news) hl hnews h1 hb hby hB
  unfold Oper.wp execOp
  simp only [ho, resolve, invoke, builtin, Sem.run_bind, Sem.run_pure, Result.andThen_ok, List.map_toArray, List.map_cons, List.map_nil, hs, hx, hr]
  exact hK _ _ (h v' w' h2 h3)

set_option maxHeartbeats 4000000 in
set_option maxRecDepth 100000 in
theorem clone_walk {m : Mem} (r : List V) (v : Value) (w : World) (hm : ∀ b o u, m b o = some u → w.cell? ⟨b, o, none⟩ = some u ∧ u.oneCell' = true) (hv : Rep m (rowC r) v) (hr : r.length ≤ 1048576) :
    Calls Tryd.prog 69 #[v] w fun e w' => ∃ v', e = .returned v' ∧ Below w.heap.size w w' ∧ Rep (memN w.heap.size w') (rowC r) v' ∧ ∃ a n c, v' = .slice a n c := by
  obtain ⟨A, cap, vs, rfl, hcap, hl, hcell⟩ := hv
  have h1 : ∀ u ∈ vs, u.oneCell' = true := fun u hu => by
    obtain ⟨b, o, _, hc⟩ := hcell (by rintro rfl; cases hu)
    obtain ⟨i, hi⟩ := List.mem_iff_getElem?.1 hu
    exact (hm _ _ _ (hc i u hi)).2
  have hlen : vs.length = r.length * 3 := by rw [hl.length, valsC_length]
  cases A with
  | none =>
    have h0 : vs = [] := by
      cases vs with
      | nil => rfl
      | cons x y => obtain ⟨b, o, h, _⟩ := hcell (by simp); cases h
    have hr0 : r = [] := List.eq_nil_of_length_eq_zero (by rw [h0] at hlen; simp at hlen; omega)
    subst hr0
    have hn := row_nil none 0 cap
    go_enter Tryd.func69, Tryd.ntmps69
    go_wp2
    go_ret
    exact ⟨_, rfl, .refl _ _, rep_sl rfl (Nat.le_refl _) fun h => absurd rfl h, _, _, _, rfl⟩
  | some ad =>
    have hn := row_nil (some ad) r.length cap
    go_enter Tryd.func69, Tryd.ntmps69
    go_wp2_with (at_builtin; refine wp_append_any rfl _ _ 28 rfl 34 _ Tryd.underlying28 T34 (by decide) (by decide) w.heap.size _ 0 [] rfl ?own _ r.length cap vs rfl hlen ?c1 h1 ?c2 ?c3 ?_)
    case own => exact World.ownsRow_made w #[] 0 (Nat.le_refl _) (by simp only [maxLen]; omega) rfl
    case c1 =>
      intro hne
      obtain ⟨b, o, e, hc⟩ := hcell hne
      refine ⟨b, o, e, fun i u hu => ?_⟩
      have h2 := (hm _ _ _ (hc i u hu)).1
      have hlt := World.block_lt_of_cell? (a := ⟨b, o + i, none⟩) w h2
      rw [← h2]
      exact World.cell?_of_block (a := ⟨b, o + i, none⟩) (Lib.alloc_old w _ b hlt)
    case c2 => unfold LIM; omega
    case c3 => simp
    intro v' w2 hown hg
    go_wp2
    go_ret
    have hb : Below w.heap.size w w2 := by
      have ha : Below w.heap.size w (w.alloc (.cells #[] 34)) := (Below.refl _ w).alloc (Nat.le_refl _) _
      rcases hg with ⟨hg, _⟩ | ⟨hg, _⟩
      · exact ⟨hg.os, hg.tape, hg.output, by have := hg.size; simp at this; omega, fun k hk => (hg.block k (by simp; omega) (by simp [Value.ownBlock]; omega)).trans (ha.block k hk)⟩
      · exact ⟨hg.os, hg.tape, hg.output, by have := hg.size; simp at this; omega, fun k hk => (hg.block k (by simp; omega) (by simp)).trans (ha.block k hk)⟩
    try simp only [Nat.zero_add, List.nil_append] at hown
    have hcells := hown
    rcases hown.2 with ⟨e1, e2⟩ | ⟨g, cap2, cur, e1, hge, _, hnc, _⟩
    · have hr0 : r = [] := List.eq_nil_of_length_eq_zero e2
      subst hr0
      exact ⟨_, rfl, hb, by rw [e1]; exact rep_sl (vs := []) rfl (Nat.le_refl _) fun h => absurd rfl h, _, _, _, e1⟩
    · refine ⟨_, rfl, hb, ?_, _, _, _, e1⟩
      rw [e1]
      refine rep_sl (repL_vals r vs hl) hnc fun _ => ⟨g, 0, rfl, fun i u hu => ?_⟩
      have h2 := hcells.cells (g := g) (by rw [e1]; rfl) i u hu
      rw [Addr.add_lit] at h2
      exact memN_at hge h2 (h1 u (List.mem_of_getElem? hu))
end Go.Proofs.YtiepbejeiijpmaaDoor

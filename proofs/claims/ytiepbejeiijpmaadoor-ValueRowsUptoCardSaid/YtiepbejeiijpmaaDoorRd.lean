/-
  What a call is told, as the machine's data. Conditions: none.
-/
import Derived.Test.YtiepbejeiijpmaaDoorT4
import Derived.Test.YtiepbejeiijpmaaDoorSo6
import Derived.Test.YtiepbejeiijpmaaDoorRows
import Derived.Deep.Slices
import Derived.Carry
import Derived.ReadAgain
namespace Go.Proofs.YtiepbejeiijpmaaDoor
open Go Go.Pe Go.Tab Go.RowKit Go.ChangeShapes Go.Deep

/-- Memory, as it is. -/
def memOf (W : World) : Mem := fun b o => match W.cell? ⟨b, o, none⟩ with
  | some v => if v.oneCell' = true then some v else none
  | none => none
theorem memOf_some {W : World} {b o : Nat} {v : Value} (h : W.cell? ⟨b, o, none⟩ = some v) (h1 : v.oneCell' = true) : memOf W b o = some v := by simp [memOf, h, h1]
theorem memOf_mem {W : World} {b o : Nat} {v : Value} (h : memOf W b o = some v) : W.cell? ⟨b, o, none⟩ = some v ∧ v.oneCell' = true := by
  unfold memOf at h
  split at h
  · split at h
    · rename_i h1 h2
      cases h
      exact ⟨h1, h2⟩
    · cases h
  · cases h

section
variable {H : Type} {enc : TypeId × Value → H} {W : World} {spare : Nat → Bool} {held : Bool}

theorem one_le {H : Type} (d : DataW H) : 1 ≤ Rows.uptoBulk d := by
  cases d with
  | lit l => cases l <;> simp [Rows.uptoBulk]
  | _ => simp [Rows.uptoBulk]
theorem bulk_mem {H : Type} {d : DataW H} : ∀ {l : List (DataW H)}, d ∈ l → Rows.uptoBulk d ≤ Rows.uptoBulkAll l
  | x :: r, h => by
    simp only [Rows.uptoBulkAll]
    rcases List.mem_cons.1 h with rfl | h
    · omega
    · have := bulk_mem h; omega
theorem bulk_sum {H : Type} (f : Nat → DataW H) (g : Nat → Nat) : ∀ n, (∀ i, i < n → g i ≤ Rows.uptoBulk (f i)) → ((List.range n).map g).sum ≤ Rows.uptoBulkAll ((List.range n).map f)
  | 0, _ => Nat.zero_le _
  | n + 1, h => by
    have ih := bulk_sum f g n fun i hi => h i (by omega)
    have happ : ∀ (l r : List (DataW H)), Rows.uptoBulkAll (l ++ r) = Rows.uptoBulkAll l + Rows.uptoBulkAll r := by
      intro l r
      induction l with
      | nil => simp [Rows.uptoBulkAll]
      | cons x l ih => simp only [List.cons_append, Rows.uptoBulkAll, ih]; omega
    rw [List.range_succ, List.map_append, List.sum_append, List.map_append, happ]
    have := h n (by omega)
    simp only [List.map_cons, List.map_nil, List.sum_cons, List.sum_nil, Rows.uptoBulkAll]
    omega
theorem bulk_len {H : Type} (f : Nat → DataW H) (n : Nat) : n ≤ Rows.uptoBulkAll ((List.range n).map f) := by
  have := bulk_sum f (fun _ => 1) n fun i _ => one_le _
  have h : ∀ n, ((List.range n).map fun _ => 1).sum = n := by
    intro n
    induction n with
    | zero => rfl
    | succ n ih => rw [List.range_succ, List.map_append, List.sum_append, ih]; rfl
  rwa [h] at this
theorem add_add (a : Addr) (m j : Nat) : (a.add m).add j = a.add (m + j) := by
  unfold Addr.add
  by_cases hm : m = 0
  · subst hm
    simp
  · by_cases hj : j = 0
    · subst hj
      simp [hm]
    · simp [hm, hj, Nat.add_assoc]

/-- A slice, by its elements. -/
theorem slice_rep {a : Addr} {len cap z : Nat} (hle : len ≤ cap) (hz : 0 < z) (cs : Nat → List Value) (g : Nat → List C)
    (h : ∀ i, i < len → W.cells? 0 (a.add (i * z)) z = some (cs i) ∧ RepL (memOf W) (g i) (cs i) ∧ ∀ u ∈ cs i, u.oneCell' = true) :
    Rep (memOf W) (.sl ((List.range len).map g).flatten len) (.slice (some a) len cap) := by
  have h1 : ∀ n, n ≤ len → RepL (memOf W) ((List.range n).map g).flatten ((List.range n).map cs).flatten ∧ ((List.range n).map cs).flatten.length = n * z ∧
      ∀ i u, ((List.range n).map cs).flatten[i]? = some u → W.cell? (a.add i) = some u ∧ u.oneCell' = true := by
    intro n
    induction n with
    | zero => intro _; exact ⟨rfl, by simp, fun i u hu => by simp at hu⟩
    | succ n ih =>
      intro hn
      obtain ⟨i1, i2, i3⟩ := ih (by omega)
      obtain ⟨j1, j2, j3⟩ := h n (by omega)
      obtain ⟨_, k1, k2⟩ := World.cells?_some j1
      simp only [List.range_succ, List.map_append, List.map_cons, List.map_nil, List.flatten_append, List.flatten_cons, List.flatten_nil, List.append_nil]
      refine ⟨i1.append j2, by rw [List.length_append, i2, k1, Nat.succ_mul], fun i u hu => ?_⟩
      rcases Nat.lt_or_ge i (n * z) with hi | hi
      · rw [List.getElem?_append_left (by omega)] at hu
        exact i3 i u hu
      · rw [List.getElem?_append_right (by omega), i2] at hu
        have hlt : i - n * z < z := by
          have := (List.getElem?_eq_some_iff.1 hu).1
          omega
        have := k2 (i - n * z) hlt
        rw [hu] at this
        rw [add_add, show n * z + (i - n * z) = i by omega] at this
        exact ⟨this, j3 u (List.mem_of_getElem? hu)⟩
  obtain ⟨h2, h3, h4⟩ := h1 len (Nat.le_refl _)
  refine ⟨some a, cap, _, rfl, hle, h2, fun hne => ?_⟩
  have hpl : a.spot = none := by
    cases hv : ((List.range len).map cs).flatten with
    | nil => exact absurd hv hne
    | cons u r =>
      have := (h4 0 u (by rw [hv]; rfl)).1
      unfold Addr.add at this
      rw [if_pos rfl] at this
      cases hs : a.spot with
      | none => rfl
      | some s =>
        unfold World.cell? at this
        split at this
        · simp [hs] at this
        · cases this
  refine ⟨a.block, a.off, by cases a; simp only at hpl; rw [hpl], fun i u hu => ?_⟩
  obtain ⟨h5, h6⟩ := h4 i u hu
  refine memOf_some ?_ h6
  rw [← h5]
  unfold Addr.add
  split
  · rename_i e; subst e; cases a; simp only at hpl; rw [hpl]; rfl
  · rfl

theorem small_wf {n : Int} (h : (Lit.int .i64 n).wf = true) : small64 n = true := by
  simp only [small64, decide_eq_true_eq]
  simp [Lit.wf, IntKind.wrap_i64] at h
  have : IntKind.i64.min = -9223372036854775808 := rfl
  omega

set_option maxRecDepth 100000 in
theorem read_val {fuel : Nat} {cs : List Value} {x : DataW H × List MemPlace} (h : DataW.trod enc Tryd.prog W 0 spare held fuel 34 cs = some x) :
    ∃ v : V, cs = [.int .i64 v.k, .int .i64 v.n, .string v.s] ∧ small64 v.k = true ∧ small64 v.n = true ∧ v.s.size + 3 ≤ Rows.uptoBulk x.1 := by
  obtain ⟨xs, n, rfl, rfl, hlen, hxl, hf⟩ := DataW.trod_struct Tryd.underlying34 h
  have hlen3 : cs.length = 3 := hlen.trans (show Tryd.prog.cellsOf 34 = 3 by kernel_rfl)
  have c3 : Tryd.prog.cellsOf 3 = 1 := by kernel_rfl
  have c9 : Tryd.prog.cellsOf 9 = 1 := by kernel_rfl
  match cs, hlen3 with
  | [u0, u1, u2], _ =>
    match xs, hxl with
    | [x0, x1, x2], _ =>
      have f0 := hf 0 _ rfl
      have f1 := hf 1 _ rfl
      have f2 := hf 2 _ rfl
      simp only [c3, c9, List.drop_zero, List.take_succ_cons, List.take_zero, List.drop_succ_cons, List.getElem?_cons_zero, List.getElem?_cons_succ] at f0 f1 f2
      obtain ⟨k, e0, rfl, w0⟩ := DataW.trod_int Tryd.underlying3 f0
      obtain ⟨m, e1, rfl, w1⟩ := DataW.trod_int Tryd.underlying3 f1
      obtain ⟨s, e2, rfl, w2⟩ := DataW.trod_string Tryd.underlying9 f2
      cases e0; cases e1; cases e2
      refine ⟨⟨k, m, s⟩, rfl, small_wf w0, small_wf w1, ?_⟩
      simp [Rows.uptoBulk, Rows.uptoBulkAll]
      have : s.size = s.data.size := rfl
      omega
set_option maxRecDepth 100000 in
theorem read_row {fuel : Nat} {cs : List Value} {x : DataW H × List MemPlace} (h : DataW.trod enc Tryd.prog W 0 spare held fuel 28 cs = some x) :
    ∃ (r : List V) (u : Value), cs = [u] ∧ u.oneCell' = true ∧ Rep (memOf W) (rowC r) u ∧ (Rows.uptoBulk x.1 ≤ 1048576 → ROk r) := by
  rcases open_slice Tryd.underlying28 h with ⟨rfl, rfl⟩ | ⟨a, len, cap, m, n, D, Pl, rfl, _, hle, _, hm, rfl, hx⟩
  · exact ⟨[], _, rfl, rfl, ⟨none, 0, [], rfl, Nat.le_refl _, rfl, fun h => absurd rfl h⟩, fun _ => ⟨by decide, by simp⟩⟩
  · have c34 : Tryd.prog.cellsOf 34 = 3 := by kernel_rfl
    rw [c34] at hx
    have hlm : len ≤ m := by rw [hm]; split <;> omega
    have hv : ∀ i : Nat, ∃ v : V, i < len → W.cells? 0 (a.add (i * 3)) 3 = some [.int .i64 v.k, .int .i64 v.n, .string v.s] ∧ small64 v.k = true ∧ small64 v.n = true ∧ v.s.size + 3 ≤ Rows.uptoBulk (D i) := fun i => by
      by_cases hi : i < len
      · obtain ⟨cs', h1, h2⟩ := hx i (by omega)
        obtain ⟨v, rfl, h3⟩ := read_val h2
        exact ⟨v, fun _ => ⟨h1, h3⟩⟩
      · exact ⟨⟨0, 0, .empty⟩, fun h => absurd h hi⟩
    obtain ⟨f, hf⟩ := Classical.axiomOfChoice hv
    refine ⟨(List.range len).map f, _, rfl, rfl, ?_, fun hb => ⟨?_, ?_⟩⟩
    · have := slice_rep (W := W) hle (by decide : 0 < 3) (fun i => [.int .i64 (f i).k, .int .i64 (f i).n, .string (f i).s]) (fun i => valC (f i)) (fun i hi => ⟨(hf i hi).1, ⟨_, _, rfl, ⟨rfl, rfl⟩, _, _, rfl, ⟨rfl, rfl⟩, _, _, rfl, ⟨rfl, rfl⟩, rfl⟩, by simp [Value.oneCell']⟩)
      unfold rowC valsC
      rw [List.map_map, List.length_map, List.length_range]
      exact this
    · have := bulk_sum D (fun i => (f i).s.size + 3) len fun i hi => (hf i hi).2.2.2
      simp only [Rows.uptoBulk] at hb
      unfold wt
      rw [List.map_map]
      exact Nat.le_trans this (by omega)
    · intro v hv
      simp only [List.mem_map, List.mem_range] at hv
      obtain ⟨i, hi, rfl⟩ := hv
      obtain ⟨_, h1, h2, h3⟩ := hf i hi
      have := bulk_mem (d := D i) (l := (List.range len).map D) (List.mem_map_of_mem (List.mem_range.2 hi))
      simp only [Rows.uptoBulk] at hb
      exact ⟨h1, h2, by omega⟩
set_option maxRecDepth 100000 in
theorem read_rows {t : TypeId} {v : Value} {d : DataW H} {ps : List MemPlace} (ht : t = 22) (hd : DataW.Trod enc Tryd.prog W 0 spare held t v d ps) (hone : v.cells.toList = [v]) (hb : Rows.uptoBulk d ≤ 1048576) :
    ∃ l : List (List V), Rep (memOf W) (rowsC l) v ∧ RsOk l := by
  subst ht
  obtain ⟨fuel, h⟩ := hd
  rcases open_slice Tryd.underlying22 h with ⟨e, e2⟩ | ⟨a, len, cap, m, n, D, Pl, e, _, hle, _, hm, e2, hx⟩
  · rw [hone] at e
    cases e
    exact ⟨[], ⟨none, 0, [], rfl, Nat.le_refl _, rfl, fun h => absurd rfl h⟩, by simp, by simp⟩
  · rw [hone] at e
    cases e
    cases e2
    have c28 : Tryd.prog.cellsOf 28 = 1 := by kernel_rfl
    rw [c28] at hx
    have hlm : len ≤ m := by rw [hm]; split <;> omega
    have hv : ∀ i : Nat, ∃ p : List V × Value, i < len → W.cells? 0 (a.add (i * 1)) 1 = some [p.2] ∧ p.2.oneCell' = true ∧ Rep (memOf W) (rowC p.1) p.2 ∧ (Rows.uptoBulk (D i) ≤ 1048576 → ROk p.1) := fun i => by
      by_cases hi : i < len
      · obtain ⟨cs', h1, h2⟩ := hx i (by omega)
        obtain ⟨r, u, rfl, h3⟩ := read_row h2
        exact ⟨(r, u), fun _ => ⟨h1, h3⟩⟩
      · exact ⟨([], undef), fun h => absurd h hi⟩
    obtain ⟨f, hf⟩ := Classical.axiomOfChoice hv
    simp only [Rows.uptoBulk] at hb
    have hbl := bulk_len D len
    refine ⟨(List.range len).map fun i => (f i).1, ?_, by simp; omega, ?_⟩
    · have := slice_rep (W := W) hle (by decide : 0 < 1) (fun i => [(f i).2]) (fun i => [rowC (f i).1]) (fun i hi => ⟨(hf i hi).1, ⟨_, _, rfl, (hf i hi).2.2.1, rfl⟩, by simpa using (hf i hi).2.1⟩)
      have e : ((List.range len).map fun i => [rowC (f i).1]).flatten = ((List.range len).map fun i => (f i).1).map rowC := by
        generalize List.range len = L
        induction L with
        | nil => rfl
        | cons x L ih => simp only [List.map_cons, List.flatten_cons, ih]; rfl
      rw [e] at this
      unfold rowsC
      rw [List.length_map, List.length_range]
      exact this
    · intro r hr
      simp only [List.mem_map, List.mem_range] at hr
      obtain ⟨i, hi, rfl⟩ := hr
      have := bulk_mem (d := D i) (l := (List.range len).map D) (List.mem_map_of_mem (List.mem_range.2 hi))
      exact (hf i hi).2.2.2 (by omega)
end
end Go.Proofs.YtiepbejeiijpmaaDoor

/-
  What the cards of chapter 3 share: what a call is told of values and rows; a world for the witness. Conditions: none.
-/
import Derived.Test.YtiepbejeiijpmaaDoorC0
namespace Go.Proofs.YtiepbejeiijpmaaDoor.card
open Go Go.Pe Go.Tab Go.RowKit Go.ChangeShapes Go.WideShapes Go.ChangeAt Go.Proofs.YtiepbejeiijpmaaDoor

theorem two_ok {x y : TypeId} (hx : Tryd.prog.readableRec x = true ∧ x < Tryd.prog.types.size) (hy : Tryd.prog.readableRec y = true ∧ y < Tryd.prog.types.size) : ∀ t ∈ [x, y], Tryd.prog.readableRec t = true ∧ t < Tryd.prog.types.size := by
  intro t ht
  simp only [List.mem_cons, List.not_mem_nil, or_false] at ht
  rcases ht with rfl | rfl
  · exact hx
  · exact hy
theorem three_ok {x : TypeId} (hx : Tryd.prog.readableRec x = true ∧ x < Tryd.prog.types.size) : ∀ t ∈ [x, x, x], Tryd.prog.readableRec t = true ∧ t < Tryd.prog.types.size := by
  intro t ht
  simp only [List.mem_cons, List.not_mem_nil, or_false] at ht
  rcases ht with rfl | rfl | rfl <;> exact hx
theorem valueOk : Tryd.prog.readableRec 34 = true ∧ 34 < Tryd.prog.types.size := ⟨by kernel_rfl, of_decide_eq_true (by kernel_rfl)⟩
theorem rowOk : Tryd.prog.readableRec 28 = true ∧ 28 < Tryd.prog.types.size := ⟨by kernel_rfl, of_decide_eq_true (by kernel_rfl)⟩
theorem row3Ok : Tryd.prog.readableRec 45 = true ∧ 45 < Tryd.prog.types.size := ⟨by kernel_rfl, of_decide_eq_true (by kernel_rfl)⟩
section
variable {H : Type} {enc : TypeId × Value → H} {W : World} {spare : Nat → Bool} {held : Bool} {base : Nat} {v : Value} {d : DataW H} {ps : List MemPlace}
set_option maxRecDepth 100000 in
theorem read_val1 (hd : DataW.Trod enc Tryd.prog W 0 spare held 34 v d ps) (hok : Value.okWide Tryd.prog W .any base 34 v) (hb : Rows.uptoBulk d ≤ 1048576) : ∃ a : V, Rep (memOf W) (valX a) v ∧ VOk a := by
  obtain ⟨cs, rfl, _⟩ := okWide_struct Tryd.underlying34 hok
  obtain ⟨fuel, h⟩ := hd
  obtain ⟨a, e, h1, h2, h3⟩ := read_val h
  simp only [Value.cells] at e
  refine ⟨a, ⟨_, by rw [← e], ?_, _, _, rfl, ⟨rfl, rfl⟩, _, _, rfl, ⟨rfl, rfl⟩, _, _, rfl, ⟨rfl, rfl⟩, rfl⟩, h1, h2, ?_⟩
  · intro u hu
    simp only [List.mem_cons, List.not_mem_nil, or_false] at hu
    rcases hu with rfl | rfl | rfl <;> rfl
  · simp only at h3
    omega
set_option maxRecDepth 100000 in
theorem read_row1 (hd : DataW.Trod enc Tryd.prog W 0 spare held 28 v d ps) (hok : Value.okWide Tryd.prog W .any base 28 v) (hb : Rows.uptoBulk d ≤ 1048576) : ∃ r : List V, Rep (memOf W) (rowC r) v ∧ ROk r := by
  have hone := okSl Tryd.underlying28 hok
  obtain ⟨fuel, h⟩ := hd
  rw [hone] at h
  obtain ⟨r, u, e, _, h1, h2⟩ := read_row h
  cases e
  exact ⟨r, h1, h2 hb⟩
set_option maxRecDepth 100000 in
theorem okWide_array {n : Nat} {e t : TypeId} (ht : Tryd.prog.underlying t = some (.array n e)) (h : Value.okWide Tryd.prog W .any base t v) : ∃ cs, v = .agg cs := by
  simp only [Value.okWide, ht] at h
  obtain ⟨cs, h1, _⟩ := h
  exact ⟨cs, h1⟩
set_option maxRecDepth 100000 in
theorem read_rows3 (hd : DataW.Trod enc Tryd.prog W 0 spare held 45 v d ps) (hok : Value.okWide Tryd.prog W .any base 45 v) (hb : Rows.uptoBulk d ≤ 1048576) : ∃ a b c : List V, Rep (memOf W) (.agg [rowC a, rowC b, rowC c]) v ∧ ROk a ∧ ROk b ∧ ROk c := by
  obtain ⟨cs, rfl⟩ := okWide_array Tryd.underlying45 hok
  obtain ⟨fuel, h⟩ := hd
  obtain ⟨xs, m, rfl, e, hl, hx, hf⟩ := DataW.trod_array Tryd.underlying45 h
  have c28 : Tryd.prog.cellsOf 28 = 1 := by kernel_rfl
  have c45 : Tryd.prog.cellsOf 45 = 3 := by kernel_rfl
  simp only [Value.cells] at hl hf
  rw [c45] at hl
  rw [c28] at hf
  obtain ⟨cl⟩ := cs
  match cl, hl with
  | [u0, u1, u2], _ =>
    match xs, hx with
    | [x0, x1, x2], _ =>
      have f0 := hf 0 (by decide)
      have f1 := hf 1 (by decide)
      have f2 := hf 2 (by decide)
      simp only [Nat.zero_mul, Nat.one_mul, List.drop_zero, List.take_succ_cons, List.take_zero, List.drop_succ_cons, List.getElem?_cons_zero, List.getElem?_cons_succ] at f0 f1 f2
      obtain ⟨a, w0, e0, o0, g0, k0⟩ := read_row f0
      obtain ⟨b, w1, e1, o1, g1, k1⟩ := read_row f1
      obtain ⟨c, w2, e2, o2, g2, k2⟩ := read_row f2
      cases e0; cases e1; cases e2
      have hd : d = .agg [x0.1, x1.1, x2.1] := congrArg Prod.fst e
      rw [hd] at hb
      simp only [Rows.uptoBulk, Rows.uptoBulkAll] at hb
      refine ⟨a, b, c, ⟨_, rfl, ?_, _, _, rfl, g0, _, _, rfl, g1, _, _, rfl, g2, rfl⟩, k0 (by omega), k1 (by omega), k2 (by omega)⟩
      intro u hu
      simp only [List.mem_cons, List.not_mem_nil, or_false] at hu
      rcases hu with rfl | rfl | rfl
      · exact o0
      · exact o1
      · exact o2
end
theorem bulk2 {H : Type} {d0 d1 : DataW H} (h : Rows.uptoSmall H [d0, d1] = true) : Rows.uptoBulk d0 ≤ 1048576 ∧ Rows.uptoBulk d1 ≤ 1048576 := by
  have := of_decide_eq_true h
  simp only [Rows.uptoBulkAll] at this
  omega
theorem bulk3 {H : Type} {d0 d1 d2 : DataW H} (h : Rows.uptoSmall H [d0, d1, d2] = true) : Rows.uptoBulk d0 ≤ 1048576 ∧ Rows.uptoBulk d1 ≤ 1048576 ∧ Rows.uptoBulk d2 ≤ 1048576 := by
  have := of_decide_eq_true h
  simp only [Rows.uptoBulkAll] at this
  omega
/-- A table's cells, the parts of its parts one behind the other. -/
def litOf1 : DataW Unit → Value
  | .lit (.int k n) => .int k n
  | _ => undef
def litsIn : DataW Unit → List Value
  | .agg l => l.map litOf1
  | d => [litOf1 d]
def litsOf2 : DataW Unit → Array Value
  | .agg l => (l.map litsIn).flatten.toArray
  | _ => #[]
noncomputable def laidWorld3 (os : Os) : World :=
  { laidWorld os with heap := ((laidWorld os).heap.modify 1 (putCells (litsOf2 Rows.laid_unicode_utf8_first))).modify 2 (putCells (litsOf2 Rows.laid_unicode_utf8_acceptRanges)) }
end Go.Proofs.YtiepbejeiijpmaaDoor.card

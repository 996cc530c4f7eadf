/-
  Sorting rows in place: what a call on plain data leaves; the array that is sorted. Conditions: none.
-/
import Derived.Test.YtiepbejeiijpmaaDoorBs
import Derived.Test.YtiepbejeiijpmaaDoorT13
import Derived.Lib.QuietBelow
import Derived.Shelf.RegionOpenPlain
import Derived.Sort.WalkA
import Derived.Deep.LoopGhost
namespace Go.Proofs.YtiepbejeiijpmaaDoor
open Go Go.Pe Go.Tab Go.RowKit

theorem GT.lt {W : World} (h : GT.holds W) {c : Nat} (hc : GT.blk c) : c < W.heap.size := by
  obtain ⟨h1, m, h2⟩ := h
  rcases hc with hc | rfl
  · unfold Lib.TabIs World.var? at h1
    rw [hc] at h1
    simp only [Option.bind_some] at h1
    rcases Nat.lt_or_ge c W.heap.size with h3 | h3
    · exact h3
    · rw [Array.getElem?_eq_none h3] at h1
      cases h1
  · exact World.block_lt_of_cell? (a := ⟨0, 0, none⟩) W h2
/-- A call on plain data, as the machine says. -/
theorem plain_gives {full : Bool} (hpr : PrSound Tryd.prog GT (prB full)) {f : Nat} {xs : List X} {u : Value} (h : GB full f xs (.of (.lit u))) {fn : Func} (hfn : Tryd.prog.funcs[f]? = some fn) {W : World} (hT : GT.holds W) {m : Mem}
    (hm : ∀ b o v, m b o = some v → W.cell? ⟨b, o, none⟩ = some v ∧ v.oneCell' = true) {vs : List Value} (hvs : RepXs ⟨m, fun _ => none⟩ (fun _ => none) xs vs) :
    Calls Tryd.prog f vs.toArray W fun e W' => e = .returned u ∧ Below W.heap.size W W' := by
  have hG : ¬ ∃ c, Given ⟨m, fun _ => none⟩ (fun _ => none) c := by
    rintro ⟨c, ⟨r, hr⟩ | ⟨t, v, e, z, n, ht, _⟩⟩
    · cases hr
    · cases ht
  have hp : Hp ⟨GT, m, Given ⟨m, fun _ => none⟩ (fun _ => none)⟩ ⟨m, fun _ => none⟩ (fun _ => none) W W [] := {
    good := ⟨hT, fun c hc => ⟨GT.lt hT hc, fun hm => hG ⟨c, hm⟩⟩⟩
    below := Keeps.refl _ _
    mem := hm
    obj := fun r ob hr => by simp at hr
    dom := fun r c hr => by cases hr
    inj := fun r r' c hr => by cases hr
    tok := fun t v e z n ht => by cases ht
    tokne := fun t t' v e z n v' e' z' n' ht => by cases ht
    m0 := fun c o v hv _ _ => hv }
  refine (h.sound mixed hpr fn hfn ⟨m, fun _ => none⟩ (fun _ => none) W vs hp (fun t p ht => by cases ht) (fun r off p ht => by cases ht) hvs).mono ?_
  rintro e W' ⟨k', ow', us, he, hp', _, _, _, _, _, hus⟩
  simp only [RepXs, RepX, Rep] at hus
  obtain ⟨v, r, rfl, ⟨rfl, _⟩, rfl⟩ := hus
  refine ⟨he, ?_⟩
  have hb := hp'.below
  exact ⟨hb.os, hb.tape, hb.output, hb.size, fun c hc => hb.block c hc fun hm => hG ⟨c, hm⟩⟩

/-- A row, and what it says. -/
abbrev El := Value × List V
def ltE (x y : El) : Bool := decide (ords x.2 y.2 < 0)
theorem ltE_swo : Go.Sort.SWO ltE where
  irrefl x := by simp [ltE, ords_ord.self]
  trans x y z h1 h2 := by
    simp only [ltE, decide_eq_true_eq] at h1 h2 ⊢
    exact ords_ord.lt_tr h1 h2
  ntrans x y z h1 h2 := by
    simp only [ltE, decide_eq_false_iff_not] at h1 h2 ⊢
    have a1 := ords_ord.anti x.2 y.2
    have a2 := ords_ord.anti y.2 z.2
    have a3 := ords_ord.anti x.2 z.2
    have := ords_ord.tr z.2 y.2 x.2 (by omega) (by omega)
    omega
/-- Where an array is sorted: block B is its own; what is known of memory lies elsewhere. -/
structure At (w0 : World) (B : Nat) (m : Mem) : Prop where
  mem : ∀ b o v, m b o = some v → b ≠ B ∧ w0.cell? ⟨b, o, none⟩ = some v ∧ v.oneCell' = true
  tab : GT.holds w0
  tabne : ∀ b, GT.blk b → b ≠ B
  lt : B < w0.heap.size
def ElOk (m : Mem) (x : El) : Prop := Rep m (rowC x.2) x.1 ∧ x.2.length ≤ 1048576
theorem ElOk.slice {m : Mem} {x : El} (h : ElOk m x) : ∃ a n cap r, x = (.slice a n cap, r) := by
  obtain ⟨v, r⟩ := x
  obtain ⟨⟨a, cap, vs, e, _⟩, _⟩ := h
  exact ⟨a, _, cap, r, by simp only at e; rw [e]⟩
/-- The array. -/
structure Arr (w0 : World) (B : Nat) (d : Array El) (w : World) : Prop where
  blk : w.heap[B]? = some (.cells (d.map (·.1)) 28 (0, 0))
  keeps : Keeps (· = B) w0 w
section
variable {w0 w : World} {B : Nat} {m : Mem} {d : Array El}
theorem Arr.cmp (A : Arr w0 B d w) (K : At w0 B m) {x y : El} (hx : ElOk m x) (hy : ElOk m y) : Calls Tryd.prog 40 #[x.1, y.1] w fun e w' => e = .returned (.int .i64 (ords x.2 y.2)) ∧ Below w.heap.size w w' := by
  have hT : GT.holds w := GT.keep w0 w K.tab fun b hb => A.keeps.block b (GT.lt K.tab hb) (K.tabne b hb)
  refine plain_gives pr0_sound (vaOrders_call x.2 y.2 hx.2 hy.2) Tryd.func40 hT (m := m) (fun b o v hv => ?_) (vs := [x.1, y.1]) ⟨_, _, rfl, hx.1, _, _, rfl, hy.1, rfl⟩
  obtain ⟨h1, h2, h3⟩ := K.mem b o v hv
  exact ⟨(World.cell?_of_block (a := ⟨b, o, none⟩) (A.keeps.block b (World.block_lt_of_cell? (a := ⟨b, o, none⟩) w0 h2) h1)).trans h2, h3⟩
theorem Arr.lt (A : Arr w0 B d w) : B < w.heap.size := (Array.getElem?_eq_some_iff.1 A.blk).1
theorem Arr.grown (A : Arr w0 B d w) {w' : World} (h : Below w.heap.size w w') : Arr w0 B d w' := ⟨(h.block B A.lt).trans A.blk, A.keeps.trans (Keeps.below h)⟩
theorem Arr.c1 (A : Arr w0 B d w) (i : Nat) (hi : i < d.size) : w.cell? ⟨B, i, none⟩ = some d[i]!.1 := by
  rw [Lib.cell_of_heap A.blk]
  simp [hi, getElem!_pos]
theorem Arr.f1 (A : Arr w0 B d w) (i : Nat) : w.frozen? ⟨B, i, none⟩ = false := Lib.frozen_of_heap A.blk i
theorem heap_setCell (w : World) (b o : Nat) (x : Value) (cs : Array Value) (t : TypeId) (fz : Nat × Nat) (h : w.heap[b]? = some (.cells cs t fz)) : (w.setCell ⟨b, o, none⟩ x).heap[b]? = some (.cells (cs.setIfInBounds o x) t fz) := by
  simp [World.setCell, Array.getElem?_modify, h]
theorem Arr.set (A : Arr w0 B d w) (i : Nat) (x : El) : Arr w0 B (d.setIfInBounds i x) (w.setCell ⟨B, i, none⟩ x.1) where
  blk := by
    rw [heap_setCell _ _ _ _ _ _ _ A.blk]
    congr 2
    simp
  keeps := A.keeps.trans ⟨rfl, rfl, rfl, by simp, fun b _ hb => setCell_other w B i _ b hb⟩
theorem Arr.drew (A : Arr w0 B d w) : Arr w0 B d w.drew := ⟨A.blk, A.keeps.trans ⟨rfl, rfl, rfl, Nat.le_refl _, fun _ _ _ => rfl⟩⟩
theorem Arr.swapped (A : Arr w0 B d w) (i j : Nat) : Arr w0 B (Go.Sort.swp d i j) ((w.setCell ⟨B, i, none⟩ d[j]!.1).setCell ⟨B, j, none⟩ d[i]!.1).drew := ((A.set i d[j]!).set j d[i]!).drew
theorem Arr.c2 (A : Arr w0 B d w) (i j : Nat) (hj : j < d.size) (x : El) : ∃ u, (w.setCell ⟨B, i, none⟩ x.1).cell? ⟨B, j, none⟩ = some u :=
  ⟨_, (A.set i x).c1 j (by simpa using hj)⟩
/-- All of them are rows that are known. -/
def AllOk (m : Mem) (d : Array El) : Prop := ∀ i, i < d.size → ElOk m d[i]!
theorem AllOk.swp (h : AllOk m d) (i j : Nat) (hi : i < d.size) (hj : j < d.size) : AllOk m (Go.Sort.swp d i j) := fun k hk => by
  rw [Go.Sort.swp_size] at hk
  rw [Go.Sort.swp_get d hi hj k]
  split
  · exact h i hi
  · split
    · exact h j hj
    · exact h k hk
end
end Go.Proofs.YtiepbejeiijpmaaDoor

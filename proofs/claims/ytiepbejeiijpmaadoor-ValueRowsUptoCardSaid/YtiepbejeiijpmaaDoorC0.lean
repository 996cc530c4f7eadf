/-
  What the cards of chapter 34 share. Conditions: none.
-/
import Derived.Test.YtiepbejeiijpmaaDoorRd
import Derived.Test.YtiepbejeiijpmaaDoorCards
import Derived.Test.YtiepbejeiijpmaaDoorTie
import Derived.WalkKit
import Derived.ProofKit
import Derived.OpenShut
import Derived.Deep.DeepHandedRow
import Derived.Lib.LaidTab
import Derived.Shelf.Vars
namespace Go.Proofs.YtiepbejeiijpmaaDoor.card
open Go Go.Pe Go.Tab Go.RowKit Go.ChangeShapes Go.WideShapes Go.ChangeAt Go.Proofs.YtiepbejeiijpmaaDoor

theorem own : ownKnob Tryd.prog.godebug = none := by kernel_rfl
theorem laidOut : laidOutB Tryd.prog = true := by kernel_rfl
theorem gTab : Tryd.prog.globalNamed tabName = some 3 := by kernel_rfl
theorem gTabType : (Tryd.prog.globals[3]?).map (·.type) = some 115 := by kernel_rfl
theorem cellsTab : Tryd.prog.cellsOf 115 = 20 := by kernel_rfl
theorem cellsU64 : Tryd.prog.cellsOf 103 = 1 := by kernel_rfl
/-- The table, out of the row's list; the one other variable that is read holds some number. -/
theorem table {W : World} {laid : List (String × DataW Unit)} (hf : (laid.filter fun x => x.1 == tabName) = [(tabName, Lib.tabData .u64 Lib.pow10Tab)]) (h : laidMet Tryd.prog laid W) (hs : W.ShapedOpen Tryd.prog) : GT.holds W := by
  have h2 := h.filter fun x => x.1 == tabName
  rw [hf] at h2
  exact ⟨Lib.tabIs_of_head (rest := []) gTab gTabType Tryd.underlying115 Tryd.underlying103 cellsU64 cellsTab h2,
    Go.Proofs.cell_of_shapedOpen_int (zero := #[.int .i64 0]) (t := 3) hs (of_decide_eq_true (by kernel_rfl)) (by kernel_rfl) rfl (by kernel_rfl) (by kernel_rfl) Tryd.underlying3⟩
theorem trodAll_stays {H : Type} {enc : TypeId × Value → H} {W W' : World} {sp : Nat → Bool} : ∀ {ts : List TypeId} {vs : List Value} {ds : List (DataW H)} {ps : List MemPlace}, (∀ t ∈ ts, Tryd.prog.readableRec t = true ∧ t < Tryd.prog.types.size) →
    DataW.TrodAll enc Tryd.prog W 0 (fun _ => true) true ts vs ds ps → (∀ p ∈ ps, W.sameAt W' p) → (∀ p ∈ ps, sp p.block = true) → DataW.TrodAll enc Tryd.prog W' 0 sp true ts vs ds ps
  | [], [], [], _, _, h, _, _ => h
  | _ :: _, _ :: _, _ :: _, _, hT, ⟨p, q, h1, h2, e⟩, hs, hsp =>
    ⟨p, q, WideElems.Trod_stays laidOut (hT _ (List.mem_cons.2 (.inl rfl))).1 (hT _ (List.mem_cons.2 (.inl rfl))).2 h1 (fun x hx => hs x (by rw [e]; exact List.mem_append_left _ hx)) (fun x hx => hsp x (by rw [e]; exact List.mem_append_left _ hx)),
      trodAll_stays (fun t ht => hT t (List.mem_cons.2 (.inr ht))) h2 (fun x hx => hs x (by rw [e]; exact List.mem_append_right _ hx)) (fun x hx => hsp x (by rw [e]; exact List.mem_append_right _ hx)), e⟩

/-- A call on plain data, as the machine says. -/
def kOf (W : World) : Know := ⟨memOf W, fun _ => none⟩
theorem plain_call {f : Nat} {xs : List X} {b : Bool} (h : G1 f xs (xbool b)) {fn : Func} (hfn : Tryd.prog.funcs[f]? = some fn) {W : World} (hT : GT.holds W) {vs : List Value} (hvs : RepXs (kOf W) (fun _ => none) xs vs) :
    Calls Tryd.prog f vs.toArray W fun e W' => e = .returned (.bool b) ∧ Below W.heap.size W W' :=
  plain_gives pr_sound h hfn hT (fun _ _ _ hv => memOf_mem hv) hvs

set_option maxRecDepth 100000 in
theorem okSl {W : World} {base : Nat} {t e : TypeId} {v : Value} (ht : Tryd.prog.underlying t = some (.slice e)) (h : Value.okWide Tryd.prog W .any base t v) : v.cells.toList = [v] := by
  obtain ⟨a, len, cap, rfl⟩ := okWide_slice ht h
  rfl
/-- A world for the witness: the settled one, the listed tables holding what their initialisers lay. -/
def litsOf : DataW Unit → Array Value
  | .agg l => (l.map fun d => match d with
    | .lit (.int k n) => Value.int k n
    | _ => undef).toArray
  | _ => #[]
def putCells (vs : Array Value) : Obj → Obj
  | .cells _ t frozen => .cells vs t frozen
  | o => o
noncomputable def laidWorld (os : Os) : World :=
  { World.holding Tryd.prog os ⟨#[], #[], []⟩ with heap := (((World.holding Tryd.prog os ⟨#[], #[], []⟩).heap.modify 3 (putCells (litsOf Rows.laid_internal_strconv_uint64pow10))).modify 4 (putCells (litsOf Rows.laid_math_bits_deBruijn32tab))).modify 5 (putCells (litsOf Rows.laid_math_bits_deBruijn64tab)) }
end Go.Proofs.YtiepbejeiijpmaaDoor.card

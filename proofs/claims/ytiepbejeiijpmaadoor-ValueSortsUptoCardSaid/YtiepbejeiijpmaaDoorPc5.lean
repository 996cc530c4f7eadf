/-
  The facts of this seat's translation that the evaluator wants: its types, its functions' bodies. Written by program. Conditions: none.
-/
import Derived.Test.YtiepbejeiijpmaaDoorPc4
import Derived.Test.YtiepbejeiijpmaaDoorProg
import Derived.KernelRfl
namespace Go.Proofs.YtiepbejeiijpmaaDoor
open Go Go.Pe

/-- The functions that take or give objects; those that take rights; those whose answers are given. -/
def objF (f : Nat) : Bool := [77, 87, 88, 89].contains f
def tkF (f : Nat) : Bool := [].contains f
theorem T1 : TT.of Tryd.prog 1 = some ⟨.func #[] #[] false, 1, 8, false, [.nilFunc], []⟩ := by kernel_rfl
theorem P1 (x : X) (xs : List X) : pieceX (TT.of Tryd.prog) 1 (x :: xs) = some x := by simp only [pieceX, T1]; rfl
theorem T2 : TT.of Tryd.prog 2 = some ⟨.int .i64, 1, 8, false, [.int .i64 0], []⟩ := by kernel_rfl
theorem P2 (x : X) (xs : List X) : pieceX (TT.of Tryd.prog) 2 (x :: xs) = some x := by simp only [pieceX, T2]; rfl
theorem U3 : (TT.of Tryd.prog 3).map (·.und) = some (.int .i64) := by kernel_rfl
theorem T3 : TT.of Tryd.prog 3 = some ⟨.int .i64, 1, 8, false, [.int .i64 0], []⟩ := by kernel_rfl
theorem P3 (x : X) (xs : List X) : pieceX (TT.of Tryd.prog) 3 (x :: xs) = some x := by simp only [pieceX, T3]; rfl
theorem U4 : (TT.of Tryd.prog 4).map (·.und) = some (.bool) := by kernel_rfl
theorem U5 : (TT.of Tryd.prog 5).map (·.und) = some (.int .u8) := by kernel_rfl
theorem T5 : TT.of Tryd.prog 5 = some ⟨.int .u8, 1, 1, false, [.int .u8 0], []⟩ := by kernel_rfl
theorem U9 : (TT.of Tryd.prog 9).map (·.und) = some (.string) := by kernel_rfl
theorem T9 : TT.of Tryd.prog 9 = some ⟨.string, 1, 16, false, [.string ⟨#[]⟩], []⟩ := by kernel_rfl
theorem P9 (x : X) (xs : List X) : pieceX (TT.of Tryd.prog) 9 (x :: xs) = some x := by simp only [pieceX, T9]; rfl
theorem U22 : (TT.of Tryd.prog 22).map (·.und) = some (.slice 28) := by kernel_rfl
theorem T22 : TT.of Tryd.prog 22 = some ⟨.slice 28, 1, 24, false, [.slice none 0 0], []⟩ := by kernel_rfl
theorem U28 : (TT.of Tryd.prog 28).map (·.und) = some (.slice 34) := by kernel_rfl
theorem T28 : TT.of Tryd.prog 28 = some ⟨.slice 34, 1, 24, false, [.slice none 0 0], []⟩ := by kernel_rfl
theorem Q28 (x : C) (xs : List C) : pieceC (TT.of Tryd.prog) 28 (x :: xs) = some x := by simp only [pieceC, T28]; rfl
theorem T34 : TT.of Tryd.prog 34 = some ⟨.struct #[{ name := "Kind", type := 3, offset := 0, embedded := false, tag := "", pkgPath := "", byteOffset := 0 }, { name := "N", type := 3, offset := 1, embedded := false, tag := "", pkgPath := "", byteOffset := 8 }, { name := "S", type := 9, offset := 2, embedded := false, tag := "", pkgPath := "", byteOffset := 16 }], 3, 32, true, [.int .i64 0, .int .i64 0, .string ⟨#[]⟩], [(0, 1), (1, 1), (2, 1)]⟩ := by kernel_rfl
theorem P34 (x0 x1 x2 : X) (xs : List X) : pieceX (TT.of Tryd.prog) 34 (x0 :: x1 :: x2 :: xs) = some (.agg [x0, x1, x2]) := by simp only [pieceX, T34]; rfl
theorem fa34_0 (r o : Nat) : fieldAddrX (TT.of Tryd.prog) 34 0 (.ptr r o) = Pe.out (.ptr r (o + 0)) := by simp only [fieldAddrX, fieldOff, T34]; rfl
theorem fa34_1 (r o : Nat) : fieldAddrX (TT.of Tryd.prog) 34 1 (.ptr r o) = Pe.out (.ptr r (o + 1)) := by simp only [fieldAddrX, fieldOff, T34]; rfl
theorem fa34_2 (r o : Nat) : fieldAddrX (TT.of Tryd.prog) 34 2 (.ptr r o) = Pe.out (.ptr r (o + 2)) := by simp only [fieldAddrX, fieldOff, T34]; rfl
theorem U76 : (TT.of Tryd.prog 76).map (·.und) = some (.slice 3) := by kernel_rfl
theorem T76 : TT.of Tryd.prog 76 = some ⟨.slice 3, 1, 24, false, [.slice none 0 0], []⟩ := by kernel_rfl
theorem E22 : Pe.elemOf (TT.of Tryd.prog) 22 = some (28, ⟨.slice 34, 1, 24, false, [.slice none 0 0], []⟩) := by simp only [Pe.elemOf, T22, T28, Option.map_some]
theorem E28 : Pe.elemOf (TT.of Tryd.prog) 28 = some (34, ⟨.struct #[{ name := "Kind", type := 3, offset := 0, embedded := false, tag := "", pkgPath := "", byteOffset := 0 }, { name := "N", type := 3, offset := 1, embedded := false, tag := "", pkgPath := "", byteOffset := 8 }, { name := "S", type := 9, offset := 2, embedded := false, tag := "", pkgPath := "", byteOffset := 16 }], 3, 32, true, [.int .i64 0, .int .i64 0, .string ⟨#[]⟩], [(0, 1), (1, 1), (2, 1)]⟩) := by simp only [Pe.elemOf, T28, T34, Option.map_some]
theorem B34 (qs : List (Nat × List X)) : buildX Tryd.prog 34 (TT.of Tryd.prog 34) (some qs) = outO ((fillX (fun i => ([(0, 1), (1, 1), (2, 1)] : List (Nat × Nat))[i]?) (([.int .i64 0, .int .i64 0, .string ⟨#[]⟩] : List Value).map ofVal) qs).map .agg) := by simp only [T34, buildX]; rfl
theorem E76 : Pe.elemOf (TT.of Tryd.prog) 76 = some (3, ⟨.int .i64, 1, 8, false, [.int .i64 0], []⟩) := by simp only [Pe.elemOf, T76, T3, Option.map_some]
theorem ok9 : fnOk Tryd.prog 9 = true := by kernel_rfl
theorem ar9 : arity Tryd.prog 9 = Tryd.f9.ntmps := by unfold arity; rw [Tryd.func9]
theorem rv9 : resVars Tryd.prog 9 = Tryd.f9.results.toList := by unfold resVars; rw [Tryd.func9]
theorem body9 : bodyOf Tryd.prog 9 = Tryd.f9.body.getD .skip := by unfold bodyOf; rw [Tryd.func9]
theorem ok15 : fnOk Tryd.prog 15 = true := by kernel_rfl
theorem ar15 : arity Tryd.prog 15 = Tryd.f15.ntmps := by unfold arity; rw [Tryd.func15]
theorem rv15 : resVars Tryd.prog 15 = Tryd.f15.results.toList := by unfold resVars; rw [Tryd.func15]
theorem body15 : bodyOf Tryd.prog 15 = Tryd.f15.body.getD .skip := by unfold bodyOf; rw [Tryd.func15]
theorem call15 : callable Tryd.prog 15 = true := by kernel_rfl
-- 16 tabellion/setop.Union
theorem ok24 : fnOk Tryd.prog 24 = true := by kernel_rfl
theorem ar24 : arity Tryd.prog 24 = Tryd.f24.ntmps := by unfold arity; rw [Tryd.func24]
theorem rv24 : resVars Tryd.prog 24 = Tryd.f24.results.toList := by unfold resVars; rw [Tryd.func24]
theorem body24 : bodyOf Tryd.prog 24 = Tryd.f24.body.getD .skip := by unfold bodyOf; rw [Tryd.func24]
theorem call24 : callable Tryd.prog 24 = true := by kernel_rfl
-- 25 tabellion/value.Compare
theorem ok25 : fnOk Tryd.prog 25 = true := by kernel_rfl
theorem ar25 : arity Tryd.prog 25 = Tryd.f25.ntmps := by unfold arity; rw [Tryd.func25]
theorem rv25 : resVars Tryd.prog 25 = Tryd.f25.results.toList := by unfold resVars; rw [Tryd.func25]
theorem body25 : bodyOf Tryd.prog 25 = Tryd.f25.body.getD .skip := by unfold bodyOf; rw [Tryd.func25]
theorem call25 : callable Tryd.prog 25 = true := by kernel_rfl
-- 26 tabellion/tabellionref03.Compare
theorem ok27 : fnOk Tryd.prog 27 = true := by kernel_rfl
theorem ar27 : arity Tryd.prog 27 = Tryd.f27.ntmps := by unfold arity; rw [Tryd.func27]
theorem rv27 : resVars Tryd.prog 27 = Tryd.f27.results.toList := by unfold resVars; rw [Tryd.func27]
theorem body27 : bodyOf Tryd.prog 27 = Tryd.f27.body.getD .skip := by unfold bodyOf; rw [Tryd.func27]
theorem call27 : callable Tryd.prog 27 = true := by kernel_rfl
-- 28 tabellion/value.Right
theorem ok28 : fnOk Tryd.prog 28 = true := by kernel_rfl
theorem ar28 : arity Tryd.prog 28 = Tryd.f28.ntmps := by unfold arity; rw [Tryd.func28]
theorem rv28 : resVars Tryd.prog 28 = Tryd.f28.results.toList := by unfold resVars; rw [Tryd.func28]
theorem body28 : bodyOf Tryd.prog 28 = Tryd.f28.body.getD .skip := by unfold bodyOf; rw [Tryd.func28]
theorem call28 : callable Tryd.prog 28 = true := by kernel_rfl
-- 29 tabellion/tabellionref03.Right
theorem ok30 : fnOk Tryd.prog 30 = true := by kernel_rfl
theorem ar30 : arity Tryd.prog 30 = Tryd.f30.ntmps := by unfold arity; rw [Tryd.func30]
theorem rv30 : resVars Tryd.prog 30 = Tryd.f30.results.toList := by unfold resVars; rw [Tryd.func30]
theorem body30 : bodyOf Tryd.prog 30 = Tryd.f30.body.getD .skip := by unfold bodyOf; rw [Tryd.func30]
theorem call30 : callable Tryd.prog 30 = true := by kernel_rfl
-- 31 tabellion/tabellionref03.Order
theorem ok31 : fnOk Tryd.prog 31 = true := by kernel_rfl
theorem ar31 : arity Tryd.prog 31 = Tryd.f31.ntmps := by unfold arity; rw [Tryd.func31]
theorem rv31 : resVars Tryd.prog 31 = Tryd.f31.results.toList := by unfold resVars; rw [Tryd.func31]
theorem body31 : bodyOf Tryd.prog 31 = Tryd.f31.body.getD .skip := by unfold bodyOf; rw [Tryd.func31]
theorem call31 : callable Tryd.prog 31 = true := by kernel_rfl
-- 32 tabellion/value.Text
theorem ok32 : fnOk Tryd.prog 32 = true := by kernel_rfl
theorem ar32 : arity Tryd.prog 32 = Tryd.f32.ntmps := by unfold arity; rw [Tryd.func32]
theorem rv32 : resVars Tryd.prog 32 = Tryd.f32.results.toList := by unfold resVars; rw [Tryd.func32]
theorem body32 : bodyOf Tryd.prog 32 = Tryd.f32.body.getD .skip := by unfold bodyOf; rw [Tryd.func32]
theorem call32 : callable Tryd.prog 32 = true := by kernel_rfl
-- 33 tabellion/tabellionref03.Text
theorem ok34 : fnOk Tryd.prog 34 = true := by kernel_rfl
theorem ar34 : arity Tryd.prog 34 = Tryd.f34.ntmps := by unfold arity; rw [Tryd.func34]
theorem rv34 : resVars Tryd.prog 34 = Tryd.f34.results.toList := by unfold resVars; rw [Tryd.func34]
theorem body34 : bodyOf Tryd.prog 34 = Tryd.f34.body.getD .skip := by unfold bodyOf; rw [Tryd.func34]
theorem call34 : callable Tryd.prog 34 = true := by kernel_rfl
-- 35 tabellion/tabellionref03.Num
theorem ok36 : fnOk Tryd.prog 36 = true := by kernel_rfl
theorem ar36 : arity Tryd.prog 36 = Tryd.f36.ntmps := by unfold arity; rw [Tryd.func36]
theorem rv36 : resVars Tryd.prog 36 = Tryd.f36.results.toList := by unfold resVars; rw [Tryd.func36]
theorem body36 : bodyOf Tryd.prog 36 = Tryd.f36.body.getD .skip := by unfold bodyOf; rw [Tryd.func36]
theorem call36 : callable Tryd.prog 36 = true := by kernel_rfl
-- 37 tabellion/tabellionref03.Str
theorem ok38 : fnOk Tryd.prog 38 = true := by kernel_rfl
theorem ar38 : arity Tryd.prog 38 = Tryd.f38.ntmps := by unfold arity; rw [Tryd.func38]
theorem rv38 : resVars Tryd.prog 38 = Tryd.f38.results.toList := by unfold resVars; rw [Tryd.func38]
theorem body38 : bodyOf Tryd.prog 38 = Tryd.f38.body.getD .skip := by unfold bodyOf; rw [Tryd.func38]
theorem call38 : callable Tryd.prog 38 = true := by kernel_rfl
-- 39 tabellion/tabellionref03.Bool
theorem ok40 : fnOk Tryd.prog 40 = true := by kernel_rfl
theorem ar40 : arity Tryd.prog 40 = Tryd.f40.ntmps := by unfold arity; rw [Tryd.func40]
theorem rv40 : resVars Tryd.prog 40 = Tryd.f40.results.toList := by unfold resVars; rw [Tryd.func40]
theorem body40 : bodyOf Tryd.prog 40 = Tryd.f40.body.getD .skip := by unfold bodyOf; rw [Tryd.func40]
theorem call40 : callable Tryd.prog 40 = true := by kernel_rfl
-- 41 tabellion/value.Sorted
theorem call41 : callable Tryd.prog 41 = true := by kernel_rfl
-- 42 tabellion/tabellionref03.Sorted
theorem ok42 : fnOk Tryd.prog 42 = true := by kernel_rfl
theorem ar42 : arity Tryd.prog 42 = Tryd.f42.ntmps := by unfold arity; rw [Tryd.func42]
theorem rv42 : resVars Tryd.prog 42 = Tryd.f42.results.toList := by unfold resVars; rw [Tryd.func42]
theorem body42 : bodyOf Tryd.prog 42 = Tryd.f42.body.getD .skip := by unfold bodyOf; rw [Tryd.func42]
theorem call42 : callable Tryd.prog 42 = true := by kernel_rfl
-- 43 tabellion/tabellionref03.Bag
theorem call43 : callable Tryd.prog 43 = true := by kernel_rfl
-- 44 tabellion/value.Rights
theorem ok46 : fnOk Tryd.prog 46 = true := by kernel_rfl
theorem ar46 : arity Tryd.prog 46 = Tryd.f46.ntmps := by unfold arity; rw [Tryd.func46]
theorem rv46 : resVars Tryd.prog 46 = Tryd.f46.results.toList := by unfold resVars; rw [Tryd.func46]
theorem body46 : bodyOf Tryd.prog 46 = Tryd.f46.body.getD .skip := by unfold bodyOf; rw [Tryd.func46]
theorem call46 : callable Tryd.prog 46 = true := by kernel_rfl
-- 47 tabellion/setop.fresh
theorem ok52 : fnOk Tryd.prog 52 = true := by kernel_rfl
theorem ar52 : arity Tryd.prog 52 = Tryd.f52.ntmps := by unfold arity; rw [Tryd.func52]
theorem rv52 : resVars Tryd.prog 52 = Tryd.f52.results.toList := by unfold resVars; rw [Tryd.func52]
theorem body52 : bodyOf Tryd.prog 52 = Tryd.f52.body.getD .skip := by unfold bodyOf; rw [Tryd.func52]
theorem call52 : callable Tryd.prog 52 = true := by kernel_rfl
-- 53 tabellion/value.Bag$1
theorem ok53 : fnOk Tryd.prog 53 = true := by kernel_rfl
theorem ar53 : arity Tryd.prog 53 = Tryd.f53.ntmps := by unfold arity; rw [Tryd.func53]
theorem rv53 : resVars Tryd.prog 53 = Tryd.f53.results.toList := by unfold resVars; rw [Tryd.func53]
theorem body53 : bodyOf Tryd.prog 53 = Tryd.f53.body.getD .skip := by unfold bodyOf; rw [Tryd.func53]
theorem call53 : callable Tryd.prog 53 = true := by kernel_rfl
-- 54 strings.Compare
theorem call54 : callable Tryd.prog 54 = true := by kernel_rfl
-- 55 cmp.Compare[int]
theorem ok55 : fnOk Tryd.prog 55 = true := by kernel_rfl
theorem ar55 : arity Tryd.prog 55 = Tryd.f55.ntmps := by unfold arity; rw [Tryd.func55]
theorem rv55 : resVars Tryd.prog 55 = Tryd.f55.results.toList := by unfold resVars; rw [Tryd.func55]
theorem body55 : bodyOf Tryd.prog 55 = Tryd.f55.body.getD .skip := by unfold bodyOf; rw [Tryd.func55]
theorem call55 : callable Tryd.prog 55 = true := by kernel_rfl
-- 56 tabellion/tabellionref03.ints
theorem ok56 : fnOk Tryd.prog 56 = true := by kernel_rfl
theorem ar56 : arity Tryd.prog 56 = Tryd.f56.ntmps := by unfold arity; rw [Tryd.func56]
theorem rv56 : resVars Tryd.prog 56 = Tryd.f56.results.toList := by unfold resVars; rw [Tryd.func56]
theorem body56 : bodyOf Tryd.prog 56 = Tryd.f56.body.getD .skip := by unfold bodyOf; rw [Tryd.func56]
theorem call56 : callable Tryd.prog 56 = true := by kernel_rfl
-- 57 tabellion/tabellionref03.texts
theorem ok57 : fnOk Tryd.prog 57 = true := by kernel_rfl
theorem ar57 : arity Tryd.prog 57 = Tryd.f57.ntmps := by unfold arity; rw [Tryd.func57]
theorem rv57 : resVars Tryd.prog 57 = Tryd.f57.results.toList := by unfold resVars; rw [Tryd.func57]
theorem body57 : bodyOf Tryd.prog 57 = Tryd.f57.body.getD .skip := by unfold bodyOf; rw [Tryd.func57]
theorem call57 : callable Tryd.prog 57 = true := by kernel_rfl
-- 58 strings.IndexFunc
theorem call58 : callable Tryd.prog 58 = true := by kernel_rfl
-- 59 tabellion/value.odd
theorem ok60 : fnOk Tryd.prog 60 = true := by kernel_rfl
theorem ar60 : arity Tryd.prog 60 = Tryd.f60.ntmps := by unfold arity; rw [Tryd.func60]
theorem rv60 : resVars Tryd.prog 60 = Tryd.f60.results.toList := by unfold resVars; rw [Tryd.func60]
theorem body60 : bodyOf Tryd.prog 60 = Tryd.f60.body.getD .skip := by unfold bodyOf; rw [Tryd.func60]
theorem call60 : callable Tryd.prog 60 = true := by kernel_rfl
-- 61 tabellion/tabellionref02.In
theorem ok63 : fnOk Tryd.prog 63 = true := by kernel_rfl
theorem ar63 : arity Tryd.prog 63 = Tryd.f63.ntmps := by unfold arity; rw [Tryd.func63]
theorem rv63 : resVars Tryd.prog 63 = Tryd.f63.results.toList := by unfold resVars; rw [Tryd.func63]
theorem body63 : bodyOf Tryd.prog 63 = Tryd.f63.body.getD .skip := by unfold bodyOf; rw [Tryd.func63]
theorem call63 : callable Tryd.prog 63 = true := by kernel_rfl
-- 64 strconv.FormatBool
theorem ok64 : fnOk Tryd.prog 64 = true := by kernel_rfl
theorem ar64 : arity Tryd.prog 64 = Tryd.f64.ntmps := by unfold arity; rw [Tryd.func64]
theorem rv64 : resVars Tryd.prog 64 = Tryd.f64.results.toList := by unfold resVars; rw [Tryd.func64]
theorem body64 : bodyOf Tryd.prog 64 = Tryd.f64.body.getD .skip := by unfold bodyOf; rw [Tryd.func64]
theorem call64 : callable Tryd.prog 64 = true := by kernel_rfl
-- 65 tabellion/num.Text
theorem ok65 : fnOk Tryd.prog 65 = true := by kernel_rfl
theorem ar65 : arity Tryd.prog 65 = Tryd.f65.ntmps := by unfold arity; rw [Tryd.func65]
theorem rv65 : resVars Tryd.prog 65 = Tryd.f65.results.toList := by unfold resVars; rw [Tryd.func65]
theorem body65 : bodyOf Tryd.prog 65 = Tryd.f65.body.getD .skip := by unfold bodyOf; rw [Tryd.func65]
theorem call65 : callable Tryd.prog 65 = true := by kernel_rfl
-- 66 strings.ReplaceAll
theorem call66 : callable Tryd.prog 66 = true := by kernel_rfl
-- 67 tabellion/tabellionref02.Text
theorem ok68 : fnOk Tryd.prog 68 = true := by kernel_rfl
theorem ar68 : arity Tryd.prog 68 = Tryd.f68.ntmps := by unfold arity; rw [Tryd.func68]
theorem rv68 : resVars Tryd.prog 68 = Tryd.f68.results.toList := by unfold resVars; rw [Tryd.func68]
theorem body68 : bodyOf Tryd.prog 68 = Tryd.f68.body.getD .skip := by unfold bodyOf; rw [Tryd.func68]
theorem call68 : callable Tryd.prog 68 = true := by kernel_rfl
-- 69 slices.Clone[tabellion/api.Row,tabellion/api.Value]
theorem ok71 : fnOk Tryd.prog 71 = true := by kernel_rfl
theorem ar71 : arity Tryd.prog 71 = Tryd.f71.ntmps := by unfold arity; rw [Tryd.func71]
theorem rv71 : resVars Tryd.prog 71 = Tryd.f71.results.toList := by unfold resVars; rw [Tryd.func71]
theorem body71 : bodyOf Tryd.prog 71 = Tryd.f71.body.getD .skip := by unfold bodyOf; rw [Tryd.func71]
theorem call71 : callable Tryd.prog 71 = true := by kernel_rfl
-- 72 tabellion/tabellionref03.Copy
theorem ok72 : fnOk Tryd.prog 72 = true := by kernel_rfl
theorem ar72 : arity Tryd.prog 72 = Tryd.f72.ntmps := by unfold arity; rw [Tryd.func72]
theorem rv72 : resVars Tryd.prog 72 = Tryd.f72.results.toList := by unfold resVars; rw [Tryd.func72]
theorem body72 : bodyOf Tryd.prog 72 = Tryd.f72.body.getD .skip := by unfold bodyOf; rw [Tryd.func72]
theorem call72 : callable Tryd.prog 72 = true := by kernel_rfl
-- 73 slices.ContainsFunc[tabellion/api.Row,tabellion/api.Value]
theorem ok80 : fnOk Tryd.prog 80 = true := by kernel_rfl
theorem ar80 : arity Tryd.prog 80 = Tryd.f80.ntmps := by unfold arity; rw [Tryd.func80]
theorem rv80 : resVars Tryd.prog 80 = Tryd.f80.results.toList := by unfold resVars; rw [Tryd.func80]
theorem body80 : bodyOf Tryd.prog 80 = Tryd.f80.body.getD .skip := by unfold bodyOf; rw [Tryd.func80]
theorem call80 : callable Tryd.prog 80 = true := by kernel_rfl
-- 81 strings.indexFunc
theorem call83 : callable Tryd.prog 83 = true := by kernel_rfl
-- 84 strings.Replace
theorem obj15 : objF 15 = false := rfl
theorem obj24 : objF 24 = false := rfl
theorem obj25 : objF 25 = false := rfl
theorem obj27 : objF 27 = false := rfl
theorem obj28 : objF 28 = false := rfl
theorem obj30 : objF 30 = false := rfl
theorem obj31 : objF 31 = false := rfl
theorem obj32 : objF 32 = false := rfl
theorem obj34 : objF 34 = false := rfl
theorem obj36 : objF 36 = false := rfl
theorem obj38 : objF 38 = false := rfl
theorem obj40 : objF 40 = false := rfl
theorem obj41 : objF 41 = false := rfl
theorem obj42 : objF 42 = false := rfl
theorem obj43 : objF 43 = false := rfl
theorem obj46 : objF 46 = false := rfl
theorem obj52 : objF 52 = false := rfl
theorem obj53 : objF 53 = false := rfl
theorem obj54 : objF 54 = false := rfl
theorem obj55 : objF 55 = false := rfl
theorem obj56 : objF 56 = false := rfl
theorem obj57 : objF 57 = false := rfl
theorem obj58 : objF 58 = false := rfl
theorem obj60 : objF 60 = false := rfl
theorem obj63 : objF 63 = false := rfl
theorem obj64 : objF 64 = false := rfl
theorem obj65 : objF 65 = false := rfl
theorem obj66 : objF 66 = false := rfl
theorem obj68 : objF 68 = false := rfl
theorem obj71 : objF 71 = false := rfl
theorem obj72 : objF 72 = false := rfl
theorem obj80 : objF 80 = false := rfl
theorem obj83 : objF 83 = false := rfl
theorem mixed : Tryd.prog.follows .mixedOrders = true := by kernel_rfl
end Go.Proofs.YtiepbejeiijpmaaDoor

/-
  The facts of this seat's translation that the evaluator wants: its types, its functions' bodies. Written by program. Conditions: none.
-/
import Derived.Test.YtcmgabicladmlaaDoorPa5
import Derived.Test.YtcmgabicladmlaaDoorProg
import Derived.KernelRfl
namespace Go.Proofs.YtcmgabicladmlaaDoor
open Go Go.Pe

/-- The functions that take or give objects; those that take rights; those whose answers are given. -/
def objF (f : Nat) : Bool := [38, 39].contains f
def tkF (f : Nat) : Bool := [].contains f
theorem U3 : (TT.of Tryd.prog 3).map (·.und) = some (.int .i64) := by kernel_rfl
theorem T3 : TT.of Tryd.prog 3 = some ⟨.int .i64, 1, 8, false, [.int .i64 0], []⟩ := by kernel_rfl
theorem P3 (x : X) (xs : List X) : pieceX (TT.of Tryd.prog) 3 (x :: xs) = some x := by simp only [pieceX, T3]; rfl
theorem Q3 (x : C) (xs : List C) : pieceC (TT.of Tryd.prog) 3 (x :: xs) = some x := by simp only [pieceC, T3]; rfl
theorem U5 : (TT.of Tryd.prog 5).map (·.und) = some (.int .u8) := by kernel_rfl
theorem T5 : TT.of Tryd.prog 5 = some ⟨.int .u8, 1, 1, false, [.int .u8 0], []⟩ := by kernel_rfl
theorem U9 : (TT.of Tryd.prog 9).map (·.und) = some (.string) := by kernel_rfl
theorem T9 : TT.of Tryd.prog 9 = some ⟨.string, 1, 16, false, [.string ⟨#[]⟩], []⟩ := by kernel_rfl
theorem P9 (x : X) (xs : List X) : pieceX (TT.of Tryd.prog) 9 (x :: xs) = some x := by simp only [pieceX, T9]; rfl
theorem Q9 (x : C) (xs : List C) : pieceC (TT.of Tryd.prog) 9 (x :: xs) = some x := by simp only [pieceC, T9]; rfl
theorem U22 : (TT.of Tryd.prog 22).map (·.und) = some (.slice 40) := by kernel_rfl
theorem T22 : TT.of Tryd.prog 22 = some ⟨.slice 40, 1, 24, false, [.slice none 0 0], []⟩ := by kernel_rfl
theorem U23 : (TT.of Tryd.prog 23).map (·.und) = some (.int .i64) := by kernel_rfl
theorem T23 : TT.of Tryd.prog 23 = some ⟨.int .i64, 1, 8, false, [.int .i64 0], []⟩ := by kernel_rfl
theorem P23 (x : X) (xs : List X) : pieceX (TT.of Tryd.prog) 23 (x :: xs) = some x := by simp only [pieceX, T23]; rfl
theorem U24 : (TT.of Tryd.prog 24).map (·.und) = some (.slice 49) := by kernel_rfl
theorem T24 : TT.of Tryd.prog 24 = some ⟨.slice 49, 1, 24, false, [.slice none 0 0], []⟩ := by kernel_rfl
theorem P24 (x : X) (xs : List X) : pieceX (TT.of Tryd.prog) 24 (x :: xs) = some x := by simp only [pieceX, T24]; rfl
theorem U25 : (TT.of Tryd.prog 25).map (·.und) = some (.slice 54) := by kernel_rfl
theorem T25 : TT.of Tryd.prog 25 = some ⟨.slice 54, 1, 24, false, [.slice none 0 0], []⟩ := by kernel_rfl
theorem P25 (x : X) (xs : List X) : pieceX (TT.of Tryd.prog) 25 (x :: xs) = some x := by simp only [pieceX, T25]; rfl
theorem U26 : (TT.of Tryd.prog 26).map (·.und) = some (.slice 9) := by kernel_rfl
theorem T26 : TT.of Tryd.prog 26 = some ⟨.slice 9, 1, 24, false, [.slice none 0 0], []⟩ := by kernel_rfl
theorem P26 (x : X) (xs : List X) : pieceX (TT.of Tryd.prog) 26 (x :: xs) = some x := by simp only [pieceX, T26]; rfl
theorem T28 : TT.of Tryd.prog 28 = some ⟨.struct #[{ name := "Kind", type := 3, offset := 0, embedded := false, tag := "", pkgPath := "", byteOffset := 0 }, { name := "E", type := 23, offset := 1, embedded := false, tag := "", pkgPath := "", byteOffset := 8 }, { name := "N", type := 3, offset := 2, embedded := false, tag := "", pkgPath := "", byteOffset := 16 }, { name := "Cols", type := 24, offset := 3, embedded := false, tag := "", pkgPath := "", byteOffset := 24 }, { name := "Rows", type := 25, offset := 4, embedded := false, tag := "", pkgPath := "", byteOffset := 48 }, { name := "Text", type := 26, offset := 5, embedded := false, tag := "", pkgPath := "", byteOffset := 72 }], 6, 96, true, [.int .i64 0, .int .i64 0, .int .i64 0, .slice none 0 0, .slice none 0 0, .slice none 0 0], [(0, 1), (1, 1), (2, 1), (3, 1), (4, 1), (5, 1)]⟩ := by kernel_rfl
theorem P28 (x0 x1 x2 x3 x4 x5 : X) (xs : List X) : pieceX (TT.of Tryd.prog) 28 (x0 :: x1 :: x2 :: x3 :: x4 :: x5 :: xs) = some (.agg [x0, x1, x2, x3, x4, x5]) := by simp only [pieceX, T28]; rfl
theorem fa28_0 (r o : Nat) : fieldAddrX (TT.of Tryd.prog) 28 0 (.ptr r o) = Pe.out (.ptr r (o + 0)) := by simp only [fieldAddrX, fieldOff, T28]; rfl
theorem fa28_1 (r o : Nat) : fieldAddrX (TT.of Tryd.prog) 28 1 (.ptr r o) = Pe.out (.ptr r (o + 1)) := by simp only [fieldAddrX, fieldOff, T28]; rfl
theorem fa28_2 (r o : Nat) : fieldAddrX (TT.of Tryd.prog) 28 2 (.ptr r o) = Pe.out (.ptr r (o + 2)) := by simp only [fieldAddrX, fieldOff, T28]; rfl
theorem fa28_3 (r o : Nat) : fieldAddrX (TT.of Tryd.prog) 28 3 (.ptr r o) = Pe.out (.ptr r (o + 3)) := by simp only [fieldAddrX, fieldOff, T28]; rfl
theorem fa28_4 (r o : Nat) : fieldAddrX (TT.of Tryd.prog) 28 4 (.ptr r o) = Pe.out (.ptr r (o + 4)) := by simp only [fieldAddrX, fieldOff, T28]; rfl
theorem fa28_5 (r o : Nat) : fieldAddrX (TT.of Tryd.prog) 28 5 (.ptr r o) = Pe.out (.ptr r (o + 5)) := by simp only [fieldAddrX, fieldOff, T28]; rfl
theorem T40 : TT.of Tryd.prog 40 = some ⟨.struct #[{ name := "Kind", type := 3, offset := 0, embedded := false, tag := "", pkgPath := "", byteOffset := 0 }, { name := "Who", type := 3, offset := 1, embedded := false, tag := "", pkgPath := "", byteOffset := 8 }, { name := "N", type := 3, offset := 2, embedded := false, tag := "", pkgPath := "", byteOffset := 16 }, { name := "Text", type := 9, offset := 3, embedded := false, tag := "", pkgPath := "", byteOffset := 24 }], 4, 40, true, [.int .i64 0, .int .i64 0, .int .i64 0, .string ⟨#[]⟩], [(0, 1), (1, 1), (2, 1), (3, 1)]⟩ := by kernel_rfl
theorem P40 (x0 x1 x2 x3 : X) (xs : List X) : pieceX (TT.of Tryd.prog) 40 (x0 :: x1 :: x2 :: x3 :: xs) = some (.agg [x0, x1, x2, x3]) := by simp only [pieceX, T40]; rfl
theorem Q40 (x0 x1 x2 x3 : C) (xs : List C) : pieceC (TT.of Tryd.prog) 40 (x0 :: x1 :: x2 :: x3 :: xs) = some (.agg [x0, x1, x2, x3]) := by simp only [pieceC, T40]; rfl
theorem fa40_0 (r o : Nat) : fieldAddrX (TT.of Tryd.prog) 40 0 (.ptr r o) = Pe.out (.ptr r (o + 0)) := by simp only [fieldAddrX, fieldOff, T40]; rfl
theorem fa40_1 (r o : Nat) : fieldAddrX (TT.of Tryd.prog) 40 1 (.ptr r o) = Pe.out (.ptr r (o + 1)) := by simp only [fieldAddrX, fieldOff, T40]; rfl
theorem fa40_2 (r o : Nat) : fieldAddrX (TT.of Tryd.prog) 40 2 (.ptr r o) = Pe.out (.ptr r (o + 2)) := by simp only [fieldAddrX, fieldOff, T40]; rfl
theorem fr40_2 (cs : List C) : fieldAddrX (TT.of Tryd.prog) 40 2 (.of (.ref cs)) = Pe.out (.of (.ref (cs.drop 2))) := by simp only [fieldAddrX, fieldOff, T40]; rfl
theorem fa40_3 (r o : Nat) : fieldAddrX (TT.of Tryd.prog) 40 3 (.ptr r o) = Pe.out (.ptr r (o + 3)) := by simp only [fieldAddrX, fieldOff, T40]; rfl
theorem T43 : TT.of Tryd.prog 43 = some ⟨.slice 5, 1, 24, false, [.slice none 0 0], []⟩ := by kernel_rfl
theorem T49 : TT.of Tryd.prog 49 = some ⟨.struct #[{ name := "Table", type := 9, offset := 0, embedded := false, tag := "", pkgPath := "", byteOffset := 0 }, { name := "Name", type := 9, offset := 1, embedded := false, tag := "", pkgPath := "", byteOffset := 16 }, { name := "Type", type := 3, offset := 2, embedded := false, tag := "", pkgPath := "", byteOffset := 32 }], 3, 40, true, [.string ⟨#[]⟩, .string ⟨#[]⟩, .int .i64 0], [(0, 1), (1, 1), (2, 1)]⟩ := by kernel_rfl
theorem P49 (x0 x1 x2 : X) (xs : List X) : pieceX (TT.of Tryd.prog) 49 (x0 :: x1 :: x2 :: xs) = some (.agg [x0, x1, x2]) := by simp only [pieceX, T49]; rfl
theorem Q49 (x0 x1 x2 : C) (xs : List C) : pieceC (TT.of Tryd.prog) 49 (x0 :: x1 :: x2 :: xs) = some (.agg [x0, x1, x2]) := by simp only [pieceC, T49]; rfl
theorem fa49_0 (r o : Nat) : fieldAddrX (TT.of Tryd.prog) 49 0 (.ptr r o) = Pe.out (.ptr r (o + 0)) := by simp only [fieldAddrX, fieldOff, T49]; rfl
theorem fr49_0 (cs : List C) : fieldAddrX (TT.of Tryd.prog) 49 0 (.of (.ref cs)) = Pe.out (.of (.ref (cs.drop 0))) := by simp only [fieldAddrX, fieldOff, T49]; rfl
theorem fa49_1 (r o : Nat) : fieldAddrX (TT.of Tryd.prog) 49 1 (.ptr r o) = Pe.out (.ptr r (o + 1)) := by simp only [fieldAddrX, fieldOff, T49]; rfl
theorem fr49_1 (cs : List C) : fieldAddrX (TT.of Tryd.prog) 49 1 (.of (.ref cs)) = Pe.out (.of (.ref (cs.drop 1))) := by simp only [fieldAddrX, fieldOff, T49]; rfl
theorem T51 : TT.of Tryd.prog 51 = some ⟨.struct #[{ name := "Kind", type := 3, offset := 0, embedded := false, tag := "", pkgPath := "", byteOffset := 0 }, { name := "N", type := 3, offset := 1, embedded := false, tag := "", pkgPath := "", byteOffset := 8 }, { name := "S", type := 9, offset := 2, embedded := false, tag := "", pkgPath := "", byteOffset := 16 }], 3, 32, true, [.int .i64 0, .int .i64 0, .string ⟨#[]⟩], [(0, 1), (1, 1), (2, 1)]⟩ := by kernel_rfl
theorem P51 (x0 x1 x2 : X) (xs : List X) : pieceX (TT.of Tryd.prog) 51 (x0 :: x1 :: x2 :: xs) = some (.agg [x0, x1, x2]) := by simp only [pieceX, T51]; rfl
theorem Q51 (x0 x1 x2 : C) (xs : List C) : pieceC (TT.of Tryd.prog) 51 (x0 :: x1 :: x2 :: xs) = some (.agg [x0, x1, x2]) := by simp only [pieceC, T51]; rfl
theorem fa51_0 (r o : Nat) : fieldAddrX (TT.of Tryd.prog) 51 0 (.ptr r o) = Pe.out (.ptr r (o + 0)) := by simp only [fieldAddrX, fieldOff, T51]; rfl
theorem fa51_1 (r o : Nat) : fieldAddrX (TT.of Tryd.prog) 51 1 (.ptr r o) = Pe.out (.ptr r (o + 1)) := by simp only [fieldAddrX, fieldOff, T51]; rfl
theorem fa51_2 (r o : Nat) : fieldAddrX (TT.of Tryd.prog) 51 2 (.ptr r o) = Pe.out (.ptr r (o + 2)) := by simp only [fieldAddrX, fieldOff, T51]; rfl
theorem U54 : (TT.of Tryd.prog 54).map (·.und) = some (.slice 51) := by kernel_rfl
theorem T54 : TT.of Tryd.prog 54 = some ⟨.slice 51, 1, 24, false, [.slice none 0 0], []⟩ := by kernel_rfl
theorem P54 (x : X) (xs : List X) : pieceX (TT.of Tryd.prog) 54 (x :: xs) = some x := by simp only [pieceX, T54]; rfl
theorem Q54 (x : C) (xs : List C) : pieceC (TT.of Tryd.prog) 54 (x :: xs) = some x := by simp only [pieceC, T54]; rfl
theorem E22 : Pe.elemOf (TT.of Tryd.prog) 22 = some (40, ⟨.struct #[{ name := "Kind", type := 3, offset := 0, embedded := false, tag := "", pkgPath := "", byteOffset := 0 }, { name := "Who", type := 3, offset := 1, embedded := false, tag := "", pkgPath := "", byteOffset := 8 }, { name := "N", type := 3, offset := 2, embedded := false, tag := "", pkgPath := "", byteOffset := 16 }, { name := "Text", type := 9, offset := 3, embedded := false, tag := "", pkgPath := "", byteOffset := 24 }], 4, 40, true, [.int .i64 0, .int .i64 0, .int .i64 0, .string ⟨#[]⟩], [(0, 1), (1, 1), (2, 1), (3, 1)]⟩) := by simp only [Pe.elemOf, T22, T40, Option.map_some]
theorem E24 : Pe.elemOf (TT.of Tryd.prog) 24 = some (49, ⟨.struct #[{ name := "Table", type := 9, offset := 0, embedded := false, tag := "", pkgPath := "", byteOffset := 0 }, { name := "Name", type := 9, offset := 1, embedded := false, tag := "", pkgPath := "", byteOffset := 16 }, { name := "Type", type := 3, offset := 2, embedded := false, tag := "", pkgPath := "", byteOffset := 32 }], 3, 40, true, [.string ⟨#[]⟩, .string ⟨#[]⟩, .int .i64 0], [(0, 1), (1, 1), (2, 1)]⟩) := by simp only [Pe.elemOf, T24, T49, Option.map_some]
theorem E25 : Pe.elemOf (TT.of Tryd.prog) 25 = some (54, ⟨.slice 51, 1, 24, false, [.slice none 0 0], []⟩) := by simp only [Pe.elemOf, T25, T54, Option.map_some]
theorem E26 : Pe.elemOf (TT.of Tryd.prog) 26 = some (9, ⟨.string, 1, 16, false, [.string ⟨#[]⟩], []⟩) := by simp only [Pe.elemOf, T26, T9, Option.map_some]
theorem E43 : Pe.elemOf (TT.of Tryd.prog) 43 = some (5, ⟨.int .u8, 1, 1, false, [.int .u8 0], []⟩) := by simp only [Pe.elemOf, T43, T5, Option.map_some]
theorem E54 : Pe.elemOf (TT.of Tryd.prog) 54 = some (51, ⟨.struct #[{ name := "Kind", type := 3, offset := 0, embedded := false, tag := "", pkgPath := "", byteOffset := 0 }, { name := "N", type := 3, offset := 1, embedded := false, tag := "", pkgPath := "", byteOffset := 8 }, { name := "S", type := 9, offset := 2, embedded := false, tag := "", pkgPath := "", byteOffset := 16 }], 3, 32, true, [.int .i64 0, .int .i64 0, .string ⟨#[]⟩], [(0, 1), (1, 1), (2, 1)]⟩) := by simp only [Pe.elemOf, T54, T51, Option.map_some]
theorem ok3 : fnOk Tryd.prog 3 = true := by kernel_rfl
theorem ar3 : arity Tryd.prog 3 = Tryd.f3.ntmps := by unfold arity; rw [Tryd.func3]
theorem rv3 : resVars Tryd.prog 3 = Tryd.f3.results.toList := by unfold resVars; rw [Tryd.func3]
theorem body3 : bodyOf Tryd.prog 3 = Tryd.f3.body.getD .skip := by unfold bodyOf; rw [Tryd.func3]
theorem ok5 : fnOk Tryd.prog 5 = true := by kernel_rfl
theorem ar5 : arity Tryd.prog 5 = Tryd.f5.ntmps := by unfold arity; rw [Tryd.func5]
theorem rv5 : resVars Tryd.prog 5 = Tryd.f5.results.toList := by unfold resVars; rw [Tryd.func5]
theorem body5 : bodyOf Tryd.prog 5 = Tryd.f5.body.getD .skip := by unfold bodyOf; rw [Tryd.func5]
theorem call5 : callable Tryd.prog 5 = true := by kernel_rfl
-- 6 tabellion/tabellionref58.Print
theorem ok6 : fnOk Tryd.prog 6 = true := by kernel_rfl
theorem ar6 : arity Tryd.prog 6 = Tryd.f6.ntmps := by unfold arity; rw [Tryd.func6]
theorem rv6 : resVars Tryd.prog 6 = Tryd.f6.results.toList := by unfold resVars; rw [Tryd.func6]
theorem body6 : bodyOf Tryd.prog 6 = Tryd.f6.body.getD .skip := by unfold bodyOf; rw [Tryd.func6]
theorem call6 : callable Tryd.prog 6 = true := by kernel_rfl
-- 7 tabellion/script.Parse
theorem ok7 : fnOk Tryd.prog 7 = true := by kernel_rfl
theorem ar7 : arity Tryd.prog 7 = Tryd.f7.ntmps := by unfold arity; rw [Tryd.func7]
theorem rv7 : resVars Tryd.prog 7 = Tryd.f7.results.toList := by unfold resVars; rw [Tryd.func7]
theorem body7 : bodyOf Tryd.prog 7 = Tryd.f7.body.getD .skip := by unfold bodyOf; rw [Tryd.func7]
theorem call7 : callable Tryd.prog 7 = true := by kernel_rfl
-- 8 tabellion/tabellionref58.Parse
theorem ok8 : fnOk Tryd.prog 8 = true := by kernel_rfl
theorem ar8 : arity Tryd.prog 8 = Tryd.f8.ntmps := by unfold arity; rw [Tryd.func8]
theorem rv8 : resVars Tryd.prog 8 = Tryd.f8.results.toList := by unfold resVars; rw [Tryd.func8]
theorem body8 : bodyOf Tryd.prog 8 = Tryd.f8.body.getD .skip := by unfold bodyOf; rw [Tryd.func8]
theorem call8 : callable Tryd.prog 8 = true := by kernel_rfl
-- 9 tabellion/tabellionlaw58.awake
theorem ok9 : fnOk Tryd.prog 9 = true := by kernel_rfl
theorem ar9 : arity Tryd.prog 9 = Tryd.f9.ntmps := by unfold arity; rw [Tryd.func9]
theorem rv9 : resVars Tryd.prog 9 = Tryd.f9.results.toList := by unfold resVars; rw [Tryd.func9]
theorem body9 : bodyOf Tryd.prog 9 = Tryd.f9.body.getD .skip := by unfold bodyOf; rw [Tryd.func9]
theorem call9 : callable Tryd.prog 9 = true := by kernel_rfl
-- 10 tabellion/tabellionref58.Acts
theorem ok10 : fnOk Tryd.prog 10 = true := by kernel_rfl
theorem ar10 : arity Tryd.prog 10 = Tryd.f10.ntmps := by unfold arity; rw [Tryd.func10]
theorem rv10 : resVars Tryd.prog 10 = Tryd.f10.results.toList := by unfold resVars; rw [Tryd.func10]
theorem body10 : bodyOf Tryd.prog 10 = Tryd.f10.body.getD .skip := by unfold bodyOf; rw [Tryd.func10]
theorem call10 : callable Tryd.prog 10 = true := by kernel_rfl
-- 11 tabellion/tabellionref09.Strings
theorem ok11 : fnOk Tryd.prog 11 = true := by kernel_rfl
theorem ar11 : arity Tryd.prog 11 = Tryd.f11.ntmps := by unfold arity; rw [Tryd.func11]
theorem rv11 : resVars Tryd.prog 11 = Tryd.f11.results.toList := by unfold resVars; rw [Tryd.func11]
theorem body11 : bodyOf Tryd.prog 11 = Tryd.f11.body.getD .skip := by unfold bodyOf; rw [Tryd.func11]
theorem call11 : callable Tryd.prog 11 = true := by kernel_rfl
-- 12 tabellion/script.Line
theorem ok12 : fnOk Tryd.prog 12 = true := by kernel_rfl
theorem ar12 : arity Tryd.prog 12 = Tryd.f12.ntmps := by unfold arity; rw [Tryd.func12]
theorem rv12 : resVars Tryd.prog 12 = Tryd.f12.results.toList := by unfold resVars; rw [Tryd.func12]
theorem body12 : bodyOf Tryd.prog 12 = Tryd.f12.body.getD .skip := by unfold bodyOf; rw [Tryd.func12]
theorem call12 : callable Tryd.prog 12 = true := by kernel_rfl
-- 13 tabellion/tabellionref58.Line
theorem ok13 : fnOk Tryd.prog 13 = true := by kernel_rfl
theorem ar13 : arity Tryd.prog 13 = Tryd.f13.ntmps := by unfold arity; rw [Tryd.func13]
theorem rv13 : resVars Tryd.prog 13 = Tryd.f13.results.toList := by unfold resVars; rw [Tryd.func13]
theorem body13 : bodyOf Tryd.prog 13 = Tryd.f13.body.getD .skip := by unfold bodyOf; rw [Tryd.func13]
theorem call13 : callable Tryd.prog 13 = true := by kernel_rfl
-- 14 tabellion/script.may
theorem ok14 : fnOk Tryd.prog 14 = true := by kernel_rfl
theorem ar14 : arity Tryd.prog 14 = Tryd.f14.ntmps := by unfold arity; rw [Tryd.func14]
theorem rv14 : resVars Tryd.prog 14 = Tryd.f14.results.toList := by unfold resVars; rw [Tryd.func14]
theorem body14 : bodyOf Tryd.prog 14 = Tryd.f14.body.getD .skip := by unfold bodyOf; rw [Tryd.func14]
theorem call14 : callable Tryd.prog 14 = true := by kernel_rfl
-- 15 tabellion/script.line
theorem ok15 : fnOk Tryd.prog 15 = true := by kernel_rfl
theorem ar15 : arity Tryd.prog 15 = Tryd.f15.ntmps := by unfold arity; rw [Tryd.func15]
theorem rv15 : resVars Tryd.prog 15 = Tryd.f15.results.toList := by unfold resVars; rw [Tryd.func15]
theorem body15 : bodyOf Tryd.prog 15 = Tryd.f15.body.getD .skip := by unfold bodyOf; rw [Tryd.func15]
theorem call15 : callable Tryd.prog 15 = true := by kernel_rfl
-- 16 tabellion/tabellionref58.Act
theorem ok16 : fnOk Tryd.prog 16 = true := by kernel_rfl
theorem ar16 : arity Tryd.prog 16 = Tryd.f16.ntmps := by unfold arity; rw [Tryd.func16]
theorem rv16 : resVars Tryd.prog 16 = Tryd.f16.results.toList := by unfold resVars; rw [Tryd.func16]
theorem body16 : bodyOf Tryd.prog 16 = Tryd.f16.body.getD .skip := by unfold bodyOf; rw [Tryd.func16]
theorem call16 : callable Tryd.prog 16 = true := by kernel_rfl
-- 17 tabellion/tabellionref58.line
theorem ok17 : fnOk Tryd.prog 17 = true := by kernel_rfl
theorem ar17 : arity Tryd.prog 17 = Tryd.f17.ntmps := by unfold arity; rw [Tryd.func17]
theorem rv17 : resVars Tryd.prog 17 = Tryd.f17.results.toList := by unfold resVars; rw [Tryd.func17]
theorem body17 : bodyOf Tryd.prog 17 = Tryd.f17.body.getD .skip := by unfold bodyOf; rw [Tryd.func17]
theorem call17 : callable Tryd.prog 17 = true := by kernel_rfl
-- 18 strings.Cut
theorem call18 : callable Tryd.prog 18 = true := by kernel_rfl
-- 19 tabellion/script.one
theorem call19 : callable Tryd.prog 19 = true := by kernel_rfl
-- 20 tabellion/tabellionref58.one
theorem ok20 : fnOk Tryd.prog 20 = true := by kernel_rfl
theorem ar20 : arity Tryd.prog 20 = Tryd.f20.ntmps := by unfold arity; rw [Tryd.func20]
theorem rv20 : resVars Tryd.prog 20 = Tryd.f20.results.toList := by unfold resVars; rw [Tryd.func20]
theorem body20 : bodyOf Tryd.prog 20 = Tryd.f20.body.getD .skip := by unfold bodyOf; rw [Tryd.func20]
theorem call20 : callable Tryd.prog 20 = true := by kernel_rfl
-- 21 tabellion/value.Num
theorem ok21 : fnOk Tryd.prog 21 = true := by kernel_rfl
theorem ar21 : arity Tryd.prog 21 = Tryd.f21.ntmps := by unfold arity; rw [Tryd.func21]
theorem rv21 : resVars Tryd.prog 21 = Tryd.f21.results.toList := by unfold resVars; rw [Tryd.func21]
theorem body21 : bodyOf Tryd.prog 21 = Tryd.f21.body.getD .skip := by unfold bodyOf; rw [Tryd.func21]
theorem call21 : callable Tryd.prog 21 = true := by kernel_rfl
-- 22 tabellion/num.Text
theorem ok22 : fnOk Tryd.prog 22 = true := by kernel_rfl
theorem ar22 : arity Tryd.prog 22 = Tryd.f22.ntmps := by unfold arity; rw [Tryd.func22]
theorem rv22 : resVars Tryd.prog 22 = Tryd.f22.results.toList := by unfold resVars; rw [Tryd.func22]
theorem body22 : bodyOf Tryd.prog 22 = Tryd.f22.body.getD .skip := by unfold bodyOf; rw [Tryd.func22]
theorem call22 : callable Tryd.prog 22 = true := by kernel_rfl
-- 23 strings.Join
theorem call23 : callable Tryd.prog 23 = true := by kernel_rfl
-- 24 tabellion/value.Text
theorem ok24 : fnOk Tryd.prog 24 = true := by kernel_rfl
theorem ar24 : arity Tryd.prog 24 = Tryd.f24.ntmps := by unfold arity; rw [Tryd.func24]
theorem rv24 : resVars Tryd.prog 24 = Tryd.f24.results.toList := by unfold resVars; rw [Tryd.func24]
theorem body24 : bodyOf Tryd.prog 24 = Tryd.f24.body.getD .skip := by unfold bodyOf; rw [Tryd.func24]
theorem call24 : callable Tryd.prog 24 = true := by kernel_rfl
-- 25 tabellion/tabellionref02.Text
theorem ok25 : fnOk Tryd.prog 25 = true := by kernel_rfl
theorem ar25 : arity Tryd.prog 25 = Tryd.f25.ntmps := by unfold arity; rw [Tryd.func25]
theorem rv25 : resVars Tryd.prog 25 = Tryd.f25.results.toList := by unfold resVars; rw [Tryd.func25]
theorem body25 : bodyOf Tryd.prog 25 = Tryd.f25.body.getD .skip := by unfold bodyOf; rw [Tryd.func25]
theorem call25 : callable Tryd.prog 25 = true := by kernel_rfl
-- 26 tabellion/tabellionref03.Text
theorem ok26 : fnOk Tryd.prog 26 = true := by kernel_rfl
theorem ar26 : arity Tryd.prog 26 = Tryd.f26.ntmps := by unfold arity; rw [Tryd.func26]
theorem rv26 : resVars Tryd.prog 26 = Tryd.f26.results.toList := by unfold resVars; rw [Tryd.func26]
theorem body26 : bodyOf Tryd.prog 26 = Tryd.f26.body.getD .skip := by unfold bodyOf; rw [Tryd.func26]
theorem call26 : callable Tryd.prog 26 = true := by kernel_rfl
-- 27 strings.Contains
theorem call27 : callable Tryd.prog 27 = true := by kernel_rfl
-- 28 tabellion/tabellionref58.plain
theorem ok28 : fnOk Tryd.prog 28 = true := by kernel_rfl
theorem ar28 : arity Tryd.prog 28 = Tryd.f28.ntmps := by unfold arity; rw [Tryd.func28]
theorem rv28 : resVars Tryd.prog 28 = Tryd.f28.results.toList := by unfold resVars; rw [Tryd.func28]
theorem body28 : bodyOf Tryd.prog 28 = Tryd.f28.body.getD .skip := by unfold bodyOf; rw [Tryd.func28]
theorem call28 : callable Tryd.prog 28 = true := by kernel_rfl
-- 30 strings.CutPrefix
theorem ok32 : fnOk Tryd.prog 32 = true := by kernel_rfl
theorem ar32 : arity Tryd.prog 32 = Tryd.f32.ntmps := by unfold arity; rw [Tryd.func32]
theorem rv32 : resVars Tryd.prog 32 = Tryd.f32.results.toList := by unfold resVars; rw [Tryd.func32]
theorem body32 : bodyOf Tryd.prog 32 = Tryd.f32.body.getD .skip := by unfold bodyOf; rw [Tryd.func32]
theorem call32 : callable Tryd.prog 32 = true := by kernel_rfl
-- 33 tabellion/tabellionref58.numbered
theorem ok33 : fnOk Tryd.prog 33 = true := by kernel_rfl
theorem ar33 : arity Tryd.prog 33 = Tryd.f33.ntmps := by unfold arity; rw [Tryd.func33]
theorem rv33 : resVars Tryd.prog 33 = Tryd.f33.results.toList := by unfold resVars; rw [Tryd.func33]
theorem body33 : bodyOf Tryd.prog 33 = Tryd.f33.body.getD .skip := by unfold bodyOf; rw [Tryd.func33]
theorem call33 : callable Tryd.prog 33 = true := by kernel_rfl
-- 34 tabellion/tabellionref02.Parse
theorem ok34 : fnOk Tryd.prog 34 = true := by kernel_rfl
theorem ar34 : arity Tryd.prog 34 = Tryd.f34.ntmps := by unfold arity; rw [Tryd.func34]
theorem rv34 : resVars Tryd.prog 34 = Tryd.f34.results.toList := by unfold resVars; rw [Tryd.func34]
theorem body34 : bodyOf Tryd.prog 34 = Tryd.f34.body.getD .skip := by unfold bodyOf; rw [Tryd.func34]
theorem call34 : callable Tryd.prog 34 = true := by kernel_rfl
-- 35 tabellion/tabellionref58.told
theorem ok35 : fnOk Tryd.prog 35 = true := by kernel_rfl
theorem ar35 : arity Tryd.prog 35 = Tryd.f35.ntmps := by unfold arity; rw [Tryd.func35]
theorem rv35 : resVars Tryd.prog 35 = Tryd.f35.results.toList := by unfold resVars; rw [Tryd.func35]
theorem body35 : bodyOf Tryd.prog 35 = Tryd.f35.body.getD .skip := by unfold bodyOf; rw [Tryd.func35]
theorem call35 : callable Tryd.prog 35 = true := by kernel_rfl
-- 36 strconv.Itoa
theorem call36 : callable Tryd.prog 36 = true := by kernel_rfl
-- 37 (*strings.Builder).Grow
theorem ok40 : fnOk Tryd.prog 40 = true := by kernel_rfl
theorem ar40 : arity Tryd.prog 40 = Tryd.f40.ntmps := by unfold arity; rw [Tryd.func40]
theorem rv40 : resVars Tryd.prog 40 = Tryd.f40.results.toList := by unfold resVars; rw [Tryd.func40]
theorem body40 : bodyOf Tryd.prog 40 = Tryd.f40.body.getD .skip := by unfold bodyOf; rw [Tryd.func40]
theorem call40 : callable Tryd.prog 40 = true := by kernel_rfl
-- 41 strings.ReplaceAll
theorem call41 : callable Tryd.prog 41 = true := by kernel_rfl
-- 42 strings.Index
theorem ok47 : fnOk Tryd.prog 47 = true := by kernel_rfl
theorem ar47 : arity Tryd.prog 47 = Tryd.f47.ntmps := by unfold arity; rw [Tryd.func47]
theorem rv47 : resVars Tryd.prog 47 = Tryd.f47.results.toList := by unfold resVars; rw [Tryd.func47]
theorem body47 : bodyOf Tryd.prog 47 = Tryd.f47.body.getD .skip := by unfold bodyOf; rw [Tryd.func47]
theorem call47 : callable Tryd.prog 47 = true := by kernel_rfl
-- 49 (*strings.Builder).copyCheck
theorem obj5 : objF 5 = false := rfl
theorem obj6 : objF 6 = false := rfl
theorem obj7 : objF 7 = false := rfl
theorem obj8 : objF 8 = false := rfl
theorem obj9 : objF 9 = false := rfl
theorem obj10 : objF 10 = false := rfl
theorem obj11 : objF 11 = false := rfl
theorem obj12 : objF 12 = false := rfl
theorem obj13 : objF 13 = false := rfl
theorem obj14 : objF 14 = false := rfl
theorem obj15 : objF 15 = false := rfl
theorem obj16 : objF 16 = false := rfl
theorem obj17 : objF 17 = false := rfl
theorem obj18 : objF 18 = false := rfl
theorem obj19 : objF 19 = false := rfl
theorem obj20 : objF 20 = false := rfl
theorem obj21 : objF 21 = false := rfl
theorem obj22 : objF 22 = false := rfl
theorem obj23 : objF 23 = false := rfl
theorem obj24 : objF 24 = false := rfl
theorem obj25 : objF 25 = false := rfl
theorem obj26 : objF 26 = false := rfl
theorem obj27 : objF 27 = false := rfl
theorem obj28 : objF 28 = false := rfl
theorem obj32 : objF 32 = false := rfl
theorem obj33 : objF 33 = false := rfl
theorem obj34 : objF 34 = false := rfl
theorem obj35 : objF 35 = false := rfl
theorem obj36 : objF 36 = false := rfl
theorem obj40 : objF 40 = false := rfl
theorem obj41 : objF 41 = false := rfl
theorem obj47 : objF 47 = false := rfl
theorem mixed : Tryd.prog.follows .mixedOrders = true := by kernel_rfl
end Go.Proofs.YtcmgabicladmlaaDoor

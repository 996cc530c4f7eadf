/-
  The facts of this seat's translation that the evaluator wants: its types, its functions' bodies. Written by program. Conditions: none.
-/
import Derived.Test.YtiepbejeiijpmaaDoorPa4
import Derived.Test.YtiepbejeiijpmaaDoorProg
import Derived.KernelRfl
namespace Go.Proofs.YtiepbejeiijpmaaDoor
open Go Go.Pe

/-- The functions that take or give objects; those that take rights; those whose answers are given. -/
def objF (f : Nat) : Bool := [77, 87, 88, 89].contains f
def tkF (f : Nat) : Bool := [].contains f
theorem T1 : TT.of Tryd.prog 1 = some ⟨.func #[] #[] false, 1, 8, false, [.nilFunc], []⟩ := by kernel_rfl
theorem P1 (x : X) (xs : List X) : pieceX (TT.of Tryd.prog) 1 (x :: xs) = some x := by simp only [pieceX, T1]; rfl
theorem T2 : TT.of Tryd.prog 2 = some ⟨.int .i64, 1, 8, false, [.int .i64 0], []⟩ := by kernel_rfl
theorem P2 (x : X) (xs : List X) : pieceX (TT.of Tryd.prog) 2 (x :: xs) = some x := by simp only [pieceX, T2]; rfl
theorem U3 : (TT.of Tryd.prog 3).map (·.und) = some (.int .i64) := by kernel_rfl
theorem T3 : TT.of Tryd.prog 3 = some ⟨.int .i64, 1, 8, false, [.int .i64 0], []⟩ := by kernel_rfl
theorem P3 (x : X) (xs : List X) : pieceX (TT.of Tryd.prog) 3 (x :: xs) = some x := by simp only [pieceX, T3]; rfl
theorem U4 : (TT.of Tryd.prog 4).map (·.und) = some (.bool) := by kernel_rfl
theorem T4 : TT.of Tryd.prog 4 = some ⟨.bool, 1, 1, false, [.bool false], []⟩ := by kernel_rfl
theorem P4 (x : X) (xs : List X) : pieceX (TT.of Tryd.prog) 4 (x :: xs) = some x := by simp only [pieceX, T4]; rfl
theorem T5 : TT.of Tryd.prog 5 = some ⟨.int .u8, 1, 1, false, [.int .u8 0], []⟩ := by kernel_rfl
theorem U9 : (TT.of Tryd.prog 9).map (·.und) = some (.string) := by kernel_rfl
theorem T9 : TT.of Tryd.prog 9 = some ⟨.string, 1, 16, false, [.string ⟨#[]⟩], []⟩ := by kernel_rfl
theorem P9 (x : X) (xs : List X) : pieceX (TT.of Tryd.prog) 9 (x :: xs) = some x := by simp only [pieceX, T9]; rfl
theorem U22 : (TT.of Tryd.prog 22).map (·.und) = some (.slice 28) := by kernel_rfl
theorem T22 : TT.of Tryd.prog 22 = some ⟨.slice 28, 1, 24, false, [.slice none 0 0], []⟩ := by kernel_rfl
theorem U28 : (TT.of Tryd.prog 28).map (·.und) = some (.slice 34) := by kernel_rfl
theorem T28 : TT.of Tryd.prog 28 = some ⟨.slice 34, 1, 24, false, [.slice none 0 0], []⟩ := by kernel_rfl
theorem T29 : TT.of Tryd.prog 29 = some ⟨.array 3 3, 3, 24, true, [.int .i64 0, .int .i64 0, .int .i64 0], []⟩ := by kernel_rfl
theorem T34 : TT.of Tryd.prog 34 = some ⟨.struct #[{ name := "Kind", type := 3, offset := 0, embedded := false, tag := "", pkgPath := "", byteOffset := 0 }, { name := "N", type := 3, offset := 1, embedded := false, tag := "", pkgPath := "", byteOffset := 8 }, { name := "S", type := 9, offset := 2, embedded := false, tag := "", pkgPath := "", byteOffset := 16 }], 3, 32, true, [.int .i64 0, .int .i64 0, .string ⟨#[]⟩], [(0, 1), (1, 1), (2, 1)]⟩ := by kernel_rfl
theorem P34 (x0 x1 x2 : X) (xs : List X) : pieceX (TT.of Tryd.prog) 34 (x0 :: x1 :: x2 :: xs) = some (.agg [x0, x1, x2]) := by simp only [pieceX, T34]; rfl
theorem fa34_0 (r o : Nat) : fieldAddrX (TT.of Tryd.prog) 34 0 (.ptr r o) = Pe.out (.ptr r (o + 0)) := by simp only [fieldAddrX, fieldOff, T34]; rfl
theorem fa34_1 (r o : Nat) : fieldAddrX (TT.of Tryd.prog) 34 1 (.ptr r o) = Pe.out (.ptr r (o + 1)) := by simp only [fieldAddrX, fieldOff, T34]; rfl
theorem fa34_2 (r o : Nat) : fieldAddrX (TT.of Tryd.prog) 34 2 (.ptr r o) = Pe.out (.ptr r (o + 2)) := by simp only [fieldAddrX, fieldOff, T34]; rfl
theorem T71 : TT.of Tryd.prog 71 = some ⟨.map 9 4, 1, 8, false, [.map none], []⟩ := by kernel_rfl
theorem T73 : TT.of Tryd.prog 73 = some ⟨.map 9 3, 1, 8, false, [.map none], []⟩ := by kernel_rfl
theorem U76 : (TT.of Tryd.prog 76).map (·.und) = some (.slice 3) := by kernel_rfl
theorem T76 : TT.of Tryd.prog 76 = some ⟨.slice 3, 1, 24, false, [.slice none 0 0], []⟩ := by kernel_rfl
theorem T83 : TT.of Tryd.prog 83 = some ⟨.struct #[{ name := "addr", type := 80, offset := 0, embedded := false, tag := "", pkgPath := "strings", byteOffset := 0 }, { name := "buf", type := 81, offset := 1, embedded := false, tag := "", pkgPath := "strings", byteOffset := 8 }], 2, 32, true, [.pointer none, .slice none 0 0], [(0, 1), (1, 1)]⟩ := by kernel_rfl
theorem E22 : Pe.elemOf (TT.of Tryd.prog) 22 = some (28, ⟨.slice 34, 1, 24, false, [.slice none 0 0], []⟩) := by simp only [Pe.elemOf, T22, T28, Option.map_some]
theorem E28 : Pe.elemOf (TT.of Tryd.prog) 28 = some (34, ⟨.struct #[{ name := "Kind", type := 3, offset := 0, embedded := false, tag := "", pkgPath := "", byteOffset := 0 }, { name := "N", type := 3, offset := 1, embedded := false, tag := "", pkgPath := "", byteOffset := 8 }, { name := "S", type := 9, offset := 2, embedded := false, tag := "", pkgPath := "", byteOffset := 16 }], 3, 32, true, [.int .i64 0, .int .i64 0, .string ⟨#[]⟩], [(0, 1), (1, 1), (2, 1)]⟩) := by simp only [Pe.elemOf, T28, T34, Option.map_some]
theorem B29 (qs : List (Nat × List X)) : buildX Tryd.prog 29 (TT.of Tryd.prog 29) (some qs) = outO ((fillX (fun i => some (i * 1, 1)) (([.int .i64 0, .int .i64 0, .int .i64 0] : List Value).map ofVal) qs).map .agg) := by simp only [T29, buildX, T3]; rfl
theorem B34 (qs : List (Nat × List X)) : buildX Tryd.prog 34 (TT.of Tryd.prog 34) (some qs) = outO ((fillX (fun i => ([(0, 1), (1, 1), (2, 1)] : List (Nat × Nat))[i]?) (([.int .i64 0, .int .i64 0, .string ⟨#[]⟩] : List Value).map ofVal) qs).map .agg) := by simp only [T34, buildX]; rfl
theorem M71 : mapTy (TT.of Tryd.prog) 71 = some (.string, 4) := by simp only [mapTy, T71, T9]; rfl
theorem M73 : mapTy (TT.of Tryd.prog) 73 = some (.string, 3) := by simp only [mapTy, T73, T9]; rfl
theorem E76 : Pe.elemOf (TT.of Tryd.prog) 76 = some (3, ⟨.int .i64, 1, 8, false, [.int .i64 0], []⟩) := by simp only [Pe.elemOf, T76, T3, Option.map_some]
theorem ok5 : fnOk Tryd.prog 5 = true := by kernel_rfl
theorem ar5 : arity Tryd.prog 5 = Tryd.f5.ntmps := by unfold arity; rw [Tryd.func5]
theorem rv5 : resVars Tryd.prog 5 = Tryd.f5.results.toList := by unfold resVars; rw [Tryd.func5]
theorem body5 : bodyOf Tryd.prog 5 = Tryd.f5.body.getD .skip := by unfold bodyOf; rw [Tryd.func5]
theorem ok13 : fnOk Tryd.prog 13 = true := by kernel_rfl
theorem ar13 : arity Tryd.prog 13 = Tryd.f13.ntmps := by unfold arity; rw [Tryd.func13]
theorem rv13 : resVars Tryd.prog 13 = Tryd.f13.results.toList := by unfold resVars; rw [Tryd.func13]
theorem body13 : bodyOf Tryd.prog 13 = Tryd.f13.body.getD .skip := by unfold bodyOf; rw [Tryd.func13]
theorem call13 : callable Tryd.prog 13 = true := by kernel_rfl
-- 14 tabellion/tabellionlaw34.awake
theorem ok14 : fnOk Tryd.prog 14 = true := by kernel_rfl
theorem ar14 : arity Tryd.prog 14 = Tryd.f14.ntmps := by unfold arity; rw [Tryd.func14]
theorem rv14 : resVars Tryd.prog 14 = Tryd.f14.results.toList := by unfold resVars; rw [Tryd.func14]
theorem body14 : bodyOf Tryd.prog 14 = Tryd.f14.body.getD .skip := by unfold bodyOf; rw [Tryd.func14]
theorem call14 : callable Tryd.prog 14 = true := by kernel_rfl
-- 15 tabellion/tabellionref03.List
theorem ok16 : fnOk Tryd.prog 16 = true := by kernel_rfl
theorem ar16 : arity Tryd.prog 16 = Tryd.f16.ntmps := by unfold arity; rw [Tryd.func16]
theorem rv16 : resVars Tryd.prog 16 = Tryd.f16.results.toList := by unfold resVars; rw [Tryd.func16]
theorem body16 : bodyOf Tryd.prog 16 = Tryd.f16.body.getD .skip := by unfold bodyOf; rw [Tryd.func16]
theorem call16 : callable Tryd.prog 16 = true := by kernel_rfl
-- 17 tabellion/tabellionref34.Union
theorem ok18 : fnOk Tryd.prog 18 = true := by kernel_rfl
theorem ar18 : arity Tryd.prog 18 = Tryd.f18.ntmps := by unfold arity; rw [Tryd.func18]
theorem rv18 : resVars Tryd.prog 18 = Tryd.f18.results.toList := by unfold resVars; rw [Tryd.func18]
theorem body18 : bodyOf Tryd.prog 18 = Tryd.f18.body.getD .skip := by unfold bodyOf; rw [Tryd.func18]
theorem call18 : callable Tryd.prog 18 = true := by kernel_rfl
-- 19 tabellion/tabellionref34.Inter
theorem ok20 : fnOk Tryd.prog 20 = true := by kernel_rfl
theorem ar20 : arity Tryd.prog 20 = Tryd.f20.ntmps := by unfold arity; rw [Tryd.func20]
theorem rv20 : resVars Tryd.prog 20 = Tryd.f20.results.toList := by unfold resVars; rw [Tryd.func20]
theorem body20 : bodyOf Tryd.prog 20 = Tryd.f20.body.getD .skip := by unfold bodyOf; rw [Tryd.func20]
theorem call20 : callable Tryd.prog 20 = true := by kernel_rfl
-- 21 tabellion/tabellionref34.Except
theorem ok24 : fnOk Tryd.prog 24 = true := by kernel_rfl
theorem ar24 : arity Tryd.prog 24 = Tryd.f24.ntmps := by unfold arity; rw [Tryd.func24]
theorem rv24 : resVars Tryd.prog 24 = Tryd.f24.results.toList := by unfold resVars; rw [Tryd.func24]
theorem body24 : bodyOf Tryd.prog 24 = Tryd.f24.body.getD .skip := by unfold bodyOf; rw [Tryd.func24]
theorem call24 : callable Tryd.prog 24 = true := by kernel_rfl
-- 25 tabellion/value.Compare
theorem ok30 : fnOk Tryd.prog 30 = true := by kernel_rfl
theorem ar30 : arity Tryd.prog 30 = Tryd.f30.ntmps := by unfold arity; rw [Tryd.func30]
theorem rv30 : resVars Tryd.prog 30 = Tryd.f30.results.toList := by unfold resVars; rw [Tryd.func30]
theorem body30 : bodyOf Tryd.prog 30 = Tryd.f30.body.getD .skip := by unfold bodyOf; rw [Tryd.func30]
theorem call30 : callable Tryd.prog 30 = true := by kernel_rfl
-- 31 tabellion/tabellionref03.Order
theorem ok34 : fnOk Tryd.prog 34 = true := by kernel_rfl
theorem ar34 : arity Tryd.prog 34 = Tryd.f34.ntmps := by unfold arity; rw [Tryd.func34]
theorem rv34 : resVars Tryd.prog 34 = Tryd.f34.results.toList := by unfold resVars; rw [Tryd.func34]
theorem body34 : bodyOf Tryd.prog 34 = Tryd.f34.body.getD .skip := by unfold bodyOf; rw [Tryd.func34]
theorem call34 : callable Tryd.prog 34 = true := by kernel_rfl
-- 35 tabellion/tabellionref03.Num
theorem ok40 : fnOk Tryd.prog 40 = true := by kernel_rfl
theorem ar40 : arity Tryd.prog 40 = Tryd.f40.ntmps := by unfold arity; rw [Tryd.func40]
theorem rv40 : resVars Tryd.prog 40 = Tryd.f40.results.toList := by unfold resVars; rw [Tryd.func40]
theorem body40 : bodyOf Tryd.prog 40 = Tryd.f40.body.getD .skip := by unfold bodyOf; rw [Tryd.func40]
theorem call40 : callable Tryd.prog 40 = true := by kernel_rfl
-- 41 tabellion/value.Sorted
theorem call41 : callable Tryd.prog 41 = true := by kernel_rfl
-- 42 tabellion/tabellionref03.Sorted
theorem ok47 : fnOk Tryd.prog 47 = true := by kernel_rfl
theorem ar47 : arity Tryd.prog 47 = Tryd.f47.ntmps := by unfold arity; rw [Tryd.func47]
theorem rv47 : resVars Tryd.prog 47 = Tryd.f47.results.toList := by unfold resVars; rw [Tryd.func47]
theorem body47 : bodyOf Tryd.prog 47 = Tryd.f47.body.getD .skip := by unfold bodyOf; rw [Tryd.func47]
theorem call47 : callable Tryd.prog 47 = true := by kernel_rfl
-- 48 tabellion/setop.distinct
theorem ok48 : fnOk Tryd.prog 48 = true := by kernel_rfl
theorem ar48 : arity Tryd.prog 48 = Tryd.f48.ntmps := by unfold arity; rw [Tryd.func48]
theorem rv48 : resVars Tryd.prog 48 = Tryd.f48.results.toList := by unfold resVars; rw [Tryd.func48]
theorem body48 : bodyOf Tryd.prog 48 = Tryd.f48.body.getD .skip := by unfold bodyOf; rw [Tryd.func48]
theorem call48 : callable Tryd.prog 48 = true := by kernel_rfl
-- 49 tabellion/tabellionref34.once
theorem ok50 : fnOk Tryd.prog 50 = true := by kernel_rfl
theorem ar50 : arity Tryd.prog 50 = Tryd.f50.ntmps := by unfold arity; rw [Tryd.func50]
theorem rv50 : resVars Tryd.prog 50 = Tryd.f50.results.toList := by unfold resVars; rw [Tryd.func50]
theorem body50 : bodyOf Tryd.prog 50 = Tryd.f50.body.getD .skip := by unfold bodyOf; rw [Tryd.func50]
theorem call50 : callable Tryd.prog 50 = true := by kernel_rfl
-- 51 tabellion/tabellionref34.parts
theorem ok52 : fnOk Tryd.prog 52 = true := by kernel_rfl
theorem ar52 : arity Tryd.prog 52 = Tryd.f52.ntmps := by unfold arity; rw [Tryd.func52]
theorem rv52 : resVars Tryd.prog 52 = Tryd.f52.results.toList := by unfold resVars; rw [Tryd.func52]
theorem body52 : bodyOf Tryd.prog 52 = Tryd.f52.body.getD .skip := by unfold bodyOf; rw [Tryd.func52]
theorem call52 : callable Tryd.prog 52 = true := by kernel_rfl
-- 53 tabellion/value.Bag$1
theorem ok53 : fnOk Tryd.prog 53 = true := by kernel_rfl
theorem ar53 : arity Tryd.prog 53 = Tryd.f53.ntmps := by unfold arity; rw [Tryd.func53]
theorem rv53 : resVars Tryd.prog 53 = Tryd.f53.results.toList := by unfold resVars; rw [Tryd.func53]
theorem body53 : bodyOf Tryd.prog 53 = Tryd.f53.body.getD .skip := by unfold bodyOf; rw [Tryd.func53]
theorem call53 : callable Tryd.prog 53 = true := by kernel_rfl
-- 54 strings.Compare
theorem call54 : callable Tryd.prog 54 = true := by kernel_rfl
-- 55 cmp.Compare[int]
theorem ok55 : fnOk Tryd.prog 55 = true := by kernel_rfl
theorem ar55 : arity Tryd.prog 55 = Tryd.f55.ntmps := by unfold arity; rw [Tryd.func55]
theorem rv55 : resVars Tryd.prog 55 = Tryd.f55.results.toList := by unfold resVars; rw [Tryd.func55]
theorem body55 : bodyOf Tryd.prog 55 = Tryd.f55.body.getD .skip := by unfold bodyOf; rw [Tryd.func55]
theorem call55 : callable Tryd.prog 55 = true := by kernel_rfl
-- 56 tabellion/tabellionref03.ints
theorem ok63 : fnOk Tryd.prog 63 = true := by kernel_rfl
theorem ar63 : arity Tryd.prog 63 = Tryd.f63.ntmps := by unfold arity; rw [Tryd.func63]
theorem rv63 : resVars Tryd.prog 63 = Tryd.f63.results.toList := by unfold resVars; rw [Tryd.func63]
theorem body63 : bodyOf Tryd.prog 63 = Tryd.f63.body.getD .skip := by unfold bodyOf; rw [Tryd.func63]
theorem call63 : callable Tryd.prog 63 = true := by kernel_rfl
-- 64 strconv.FormatBool
theorem ok68 : fnOk Tryd.prog 68 = true := by kernel_rfl
theorem ar68 : arity Tryd.prog 68 = Tryd.f68.ntmps := by unfold arity; rw [Tryd.func68]
theorem rv68 : resVars Tryd.prog 68 = Tryd.f68.results.toList := by unfold resVars; rw [Tryd.func68]
theorem body68 : bodyOf Tryd.prog 68 = Tryd.f68.body.getD .skip := by unfold bodyOf; rw [Tryd.func68]
theorem call68 : callable Tryd.prog 68 = true := by kernel_rfl
-- 69 slices.Clone[tabellion/api.Row,tabellion/api.Value]
theorem ok75 : fnOk Tryd.prog 75 = true := by kernel_rfl
theorem ar75 : arity Tryd.prog 75 = Tryd.f75.ntmps := by unfold arity; rw [Tryd.func75]
theorem rv75 : resVars Tryd.prog 75 = Tryd.f75.results.toList := by unfold resVars; rw [Tryd.func75]
theorem body75 : bodyOf Tryd.prog 75 = Tryd.f75.body.getD .skip := by unfold bodyOf; rw [Tryd.func75]
theorem call75 : callable Tryd.prog 75 = true := by kernel_rfl
-- 76 tabellion/tabellionref34.Distinct
theorem ok77 : fnOk Tryd.prog 77 = true := by kernel_rfl
theorem ar77 : arity Tryd.prog 77 = Tryd.f77.ntmps := by unfold arity; rw [Tryd.func77]
theorem rv77 : resVars Tryd.prog 77 = Tryd.f77.results.toList := by unfold resVars; rw [Tryd.func77]
theorem body77 : bodyOf Tryd.prog 77 = Tryd.f77.body.getD .skip := by unfold bodyOf; rw [Tryd.func77]
theorem call77 : callable Tryd.prog 77 = true := by kernel_rfl
-- 78 tabellion/tabellionref34.at
theorem ok80 : fnOk Tryd.prog 80 = true := by kernel_rfl
theorem ar80 : arity Tryd.prog 80 = Tryd.f80.ntmps := by unfold arity; rw [Tryd.func80]
theorem rv80 : resVars Tryd.prog 80 = Tryd.f80.results.toList := by unfold resVars; rw [Tryd.func80]
theorem body80 : bodyOf Tryd.prog 80 = Tryd.f80.body.getD .skip := by unfold bodyOf; rw [Tryd.func80]
theorem call80 : callable Tryd.prog 80 = true := by kernel_rfl
-- 81 strings.indexFunc
theorem call83 : callable Tryd.prog 83 = true := by kernel_rfl
-- 84 strings.Replace
theorem call87 : callable Tryd.prog 87 = true := by kernel_rfl
-- 88 (*strings.Builder).WriteByte
theorem call88 : callable Tryd.prog 88 = true := by kernel_rfl
-- 89 (*strings.Builder).String
theorem call89 : callable Tryd.prog 89 = true := by kernel_rfl
-- 92 strings.Count
theorem obj13 : objF 13 = false := rfl
theorem obj14 : objF 14 = false := rfl
theorem obj16 : objF 16 = false := rfl
theorem obj18 : objF 18 = false := rfl
theorem obj20 : objF 20 = false := rfl
theorem obj24 : objF 24 = false := rfl
theorem obj30 : objF 30 = false := rfl
theorem obj34 : objF 34 = false := rfl
theorem obj40 : objF 40 = false := rfl
theorem obj41 : objF 41 = false := rfl
theorem obj47 : objF 47 = false := rfl
theorem obj48 : objF 48 = false := rfl
theorem obj50 : objF 50 = false := rfl
theorem obj52 : objF 52 = false := rfl
theorem obj53 : objF 53 = false := rfl
theorem obj54 : objF 54 = false := rfl
theorem obj55 : objF 55 = false := rfl
theorem obj63 : objF 63 = false := rfl
theorem obj68 : objF 68 = false := rfl
theorem obj75 : objF 75 = false := rfl
theorem obj77 : objF 77 = true := rfl
theorem obj80 : objF 80 = false := rfl
theorem obj83 : objF 83 = false := rfl
theorem obj87 : objF 87 = true := rfl
theorem tk87 : tkF 87 = false := rfl
theorem obj88 : objF 88 = true := rfl
theorem tk88 : tkF 88 = false := rfl
theorem obj89 : objF 89 = true := rfl
theorem tk89 : tkF 89 = false := rfl
theorem mixed : Tryd.prog.follows .mixedOrders = true := by kernel_rfl
end Go.Proofs.YtiepbejeiijpmaaDoor

/-
  The facts of this seat's translation that the evaluator wants: its types, its functions' bodies. Written by program. Conditions: none.
-/
import Derived.Test.YtfndkemgjhajnaaDoorPc5
import Derived.Test.YtfndkemgjhajnaaDoorProg
import Derived.KernelRfl
namespace Go.Proofs.YtfndkemgjhajnaaDoor
open Go Go.Pe

/-- The functions that take or give objects; those that take rights; those whose answers are given. -/
def objF (f : Nat) : Bool := [48, 49, 38, 23, 20].contains f
def tkF (f : Nat) : Bool := [].contains f
theorem U3 : (TT.of Tryd.prog 3).map (·.und) = some (.int .i64) := by kernel_rfl
theorem T3 : TT.of Tryd.prog 3 = some ⟨.int .i64, 1, 8, false, [.int .i64 0], []⟩ := by kernel_rfl
theorem P3 (x : X) (xs : List X) : pieceX (TT.of Tryd.prog) 3 (x :: xs) = some x := by simp only [pieceX, T3]; rfl
theorem Q3 (x : C) (xs : List C) : pieceC (TT.of Tryd.prog) 3 (x :: xs) = some x := by simp only [pieceC, T3]; rfl
theorem U9 : (TT.of Tryd.prog 9).map (·.und) = some (.string) := by kernel_rfl
theorem T9 : TT.of Tryd.prog 9 = some ⟨.string, 1, 16, false, [.string ⟨#[]⟩], []⟩ := by kernel_rfl
theorem P9 (x : X) (xs : List X) : pieceX (TT.of Tryd.prog) 9 (x :: xs) = some x := by simp only [pieceX, T9]; rfl
theorem Q9 (x : C) (xs : List C) : pieceC (TT.of Tryd.prog) 9 (x :: xs) = some x := by simp only [pieceC, T9]; rfl
theorem U22 : (TT.of Tryd.prog 22).map (·.und) = some (.slice 54) := by kernel_rfl
theorem T22 : TT.of Tryd.prog 22 = some ⟨.slice 54, 1, 24, false, [.slice none 0 0], []⟩ := by kernel_rfl
theorem P22 (x : X) (xs : List X) : pieceX (TT.of Tryd.prog) 22 (x :: xs) = some x := by simp only [pieceX, T22]; rfl
theorem Q22 (x : C) (xs : List C) : pieceC (TT.of Tryd.prog) 22 (x :: xs) = some x := by simp only [pieceC, T22]; rfl
theorem U23 : (TT.of Tryd.prog 23).map (·.und) = some (.slice 34) := by kernel_rfl
theorem T23 : TT.of Tryd.prog 23 = some ⟨.slice 34, 1, 24, false, [.slice none 0 0], []⟩ := by kernel_rfl
theorem P23 (x : X) (xs : List X) : pieceX (TT.of Tryd.prog) 23 (x :: xs) = some x := by simp only [pieceX, T23]; rfl
theorem Q23 (x : C) (xs : List C) : pieceC (TT.of Tryd.prog) 23 (x :: xs) = some x := by simp only [pieceC, T23]; rfl
theorem U24 : (TT.of Tryd.prog 24).map (·.und) = some (.slice 46) := by kernel_rfl
theorem T24 : TT.of Tryd.prog 24 = some ⟨.slice 46, 1, 24, false, [.slice none 0 0], []⟩ := by kernel_rfl
theorem P24 (x : X) (xs : List X) : pieceX (TT.of Tryd.prog) 24 (x :: xs) = some x := by simp only [pieceX, T24]; rfl
theorem Q24 (x : C) (xs : List C) : pieceC (TT.of Tryd.prog) 24 (x :: xs) = some x := by simp only [pieceC, T24]; rfl
theorem U25 : (TT.of Tryd.prog 25).map (·.und) = some (.slice 99) := by kernel_rfl
theorem T25 : TT.of Tryd.prog 25 = some ⟨.slice 99, 1, 24, false, [.slice none 0 0], []⟩ := by kernel_rfl
theorem Q25 (x : C) (xs : List C) : pieceC (TT.of Tryd.prog) 25 (x :: xs) = some x := by simp only [pieceC, T25]; rfl
theorem U27 : (TT.of Tryd.prog 27).map (·.und) = some (.slice 3) := by kernel_rfl
theorem T27 : TT.of Tryd.prog 27 = some ⟨.slice 3, 1, 24, false, [.slice none 0 0], []⟩ := by kernel_rfl
theorem P27 (x : X) (xs : List X) : pieceX (TT.of Tryd.prog) 27 (x :: xs) = some x := by simp only [pieceX, T27]; rfl
theorem U32 : (TT.of Tryd.prog 32).map (·.und) = some (.slice 29) := by kernel_rfl
theorem T32 : TT.of Tryd.prog 32 = some ⟨.slice 29, 1, 24, false, [.slice none 0 0], []⟩ := by kernel_rfl
theorem Q32 (x : C) (xs : List C) : pieceC (TT.of Tryd.prog) 32 (x :: xs) = some x := by simp only [pieceC, T32]; rfl
theorem T34 : TT.of Tryd.prog 34 = some ⟨.struct #[{ name := "Op", type := 3, offset := 0, embedded := false, tag := "", pkgPath := "", byteOffset := 0 }, { name := "Table", type := 9, offset := 1, embedded := false, tag := "", pkgPath := "", byteOffset := 8 }, { name := "Index", type := 9, offset := 2, embedded := false, tag := "", pkgPath := "", byteOffset := 24 }, { name := "Cols", type := 22, offset := 3, embedded := false, tag := "", pkgPath := "", byteOffset := 40 }, { name := "Kids", type := 23, offset := 4, embedded := false, tag := "", pkgPath := "", byteOffset := 64 }, { name := "Terms", type := 24, offset := 5, embedded := false, tag := "", pkgPath := "", byteOffset := 88 }, { name := "LKeys", type := 24, offset := 6, embedded := false, tag := "", pkgPath := "", byteOffset := 112 }, { name := "RKeys", type := 24, offset := 7, embedded := false, tag := "", pkgPath := "", byteOffset := 136 }, { name := "Aggs", type := 25, offset := 8, embedded := false, tag := "", pkgPath := "", byteOffset := 160 }, { name := "Keys", type := 26, offset := 9, embedded := false, tag := "", pkgPath := "", byteOffset := 184 }, { name := "Out", type := 27, offset := 10, embedded := false, tag := "", pkgPath := "", byteOffset := 208 }, { name := "Lo", type := 31, offset := 11, embedded := false, tag := "", pkgPath := "", byteOffset := 232 }, { name := "Hi", type := 31, offset := 14, embedded := false, tag := "", pkgPath := "", byteOffset := 264 }, { name := "Limit", type := 3, offset := 17, embedded := false, tag := "", pkgPath := "", byteOffset := 296 }, { name := "Skip", type := 3, offset := 18, embedded := false, tag := "", pkgPath := "", byteOffset := 304 }, { name := "All", type := 4, offset := 19, embedded := false, tag := "", pkgPath := "", byteOffset := 312 }, { name := "Rows", type := 32, offset := 20, embedded := false, tag := "", pkgPath := "", byteOffset := 320 }, { name := "Est", type := 3, offset := 21, embedded := false, tag := "", pkgPath := "", byteOffset := 344 }, { name := "Cost", type := 3, offset := 22, embedded := false, tag := "", pkgPath := "", byteOffset := 352 }], 23, 360, true, [.int .i64 0, .string ⟨#[]⟩, .string ⟨#[]⟩, .slice none 0 0, .slice none 0 0, .slice none 0 0, .slice none 0 0, .slice none 0 0, .slice none 0 0, .slice none 0 0, .slice none 0 0, .bool false, .bool false, .slice none 0 0, .bool false, .bool false, .slice none 0 0, .int .i64 0, .int .i64 0, .bool false, .slice none 0 0, .int .i64 0, .int .i64 0], [(0, 1), (1, 1), (2, 1), (3, 1), (4, 1), (5, 1), (6, 1), (7, 1), (8, 1), (9, 1), (10, 1), (11, 3), (14, 3), (17, 1), (18, 1), (19, 1), (20, 1), (21, 1), (22, 1)]⟩ := by kernel_rfl
theorem P34 (x0 x1 x2 x3 x4 x5 x6 x7 x8 x9 x10 x11 x12 x13 x14 x15 x16 x17 x18 x19 x20 x21 x22 : X) (xs : List X) : pieceX (TT.of Tryd.prog) 34 (x0 :: x1 :: x2 :: x3 :: x4 :: x5 :: x6 :: x7 :: x8 :: x9 :: x10 :: x11 :: x12 :: x13 :: x14 :: x15 :: x16 :: x17 :: x18 :: x19 :: x20 :: x21 :: x22 :: xs) = some (.agg [x0, x1, x2, x3, x4, x5, x6, x7, x8, x9, x10, x11, x12, x13, x14, x15, x16, x17, x18, x19, x20, x21, x22]) := by simp only [pieceX, T34]; rfl
theorem Q34 (x0 x1 x2 x3 x4 x5 x6 x7 x8 x9 x10 x11 x12 x13 x14 x15 x16 x17 x18 x19 x20 x21 x22 : C) (xs : List C) : pieceC (TT.of Tryd.prog) 34 (x0 :: x1 :: x2 :: x3 :: x4 :: x5 :: x6 :: x7 :: x8 :: x9 :: x10 :: x11 :: x12 :: x13 :: x14 :: x15 :: x16 :: x17 :: x18 :: x19 :: x20 :: x21 :: x22 :: xs) = some (.agg [x0, x1, x2, x3, x4, x5, x6, x7, x8, x9, x10, x11, x12, x13, x14, x15, x16, x17, x18, x19, x20, x21, x22]) := by simp only [pieceC, T34]; rfl
theorem fa34_0 (r o : Nat) : fieldAddrX (TT.of Tryd.prog) 34 0 (.ptr r o) = Pe.out (.ptr r (o + 0)) := by simp only [fieldAddrX, fieldOff, T34]; rfl
theorem fa34_1 (r o : Nat) : fieldAddrX (TT.of Tryd.prog) 34 1 (.ptr r o) = Pe.out (.ptr r (o + 1)) := by simp only [fieldAddrX, fieldOff, T34]; rfl
theorem fa34_2 (r o : Nat) : fieldAddrX (TT.of Tryd.prog) 34 2 (.ptr r o) = Pe.out (.ptr r (o + 2)) := by simp only [fieldAddrX, fieldOff, T34]; rfl
theorem fa34_3 (r o : Nat) : fieldAddrX (TT.of Tryd.prog) 34 3 (.ptr r o) = Pe.out (.ptr r (o + 3)) := by simp only [fieldAddrX, fieldOff, T34]; rfl
theorem fr34_3 (cs : List C) : fieldAddrX (TT.of Tryd.prog) 34 3 (.of (.ref cs)) = Pe.out (.of (.ref (cs.drop 3))) := by simp only [fieldAddrX, fieldOff, T34]; rfl
theorem fa34_4 (r o : Nat) : fieldAddrX (TT.of Tryd.prog) 34 4 (.ptr r o) = Pe.out (.ptr r (o + 4)) := by simp only [fieldAddrX, fieldOff, T34]; rfl
theorem fr34_4 (cs : List C) : fieldAddrX (TT.of Tryd.prog) 34 4 (.of (.ref cs)) = Pe.out (.of (.ref (cs.drop 4))) := by simp only [fieldAddrX, fieldOff, T34]; rfl
theorem fa34_5 (r o : Nat) : fieldAddrX (TT.of Tryd.prog) 34 5 (.ptr r o) = Pe.out (.ptr r (o + 5)) := by simp only [fieldAddrX, fieldOff, T34]; rfl
theorem fr34_5 (cs : List C) : fieldAddrX (TT.of Tryd.prog) 34 5 (.of (.ref cs)) = Pe.out (.of (.ref (cs.drop 5))) := by simp only [fieldAddrX, fieldOff, T34]; rfl
theorem fa34_6 (r o : Nat) : fieldAddrX (TT.of Tryd.prog) 34 6 (.ptr r o) = Pe.out (.ptr r (o + 6)) := by simp only [fieldAddrX, fieldOff, T34]; rfl
theorem fr34_6 (cs : List C) : fieldAddrX (TT.of Tryd.prog) 34 6 (.of (.ref cs)) = Pe.out (.of (.ref (cs.drop 6))) := by simp only [fieldAddrX, fieldOff, T34]; rfl
theorem fa34_7 (r o : Nat) : fieldAddrX (TT.of Tryd.prog) 34 7 (.ptr r o) = Pe.out (.ptr r (o + 7)) := by simp only [fieldAddrX, fieldOff, T34]; rfl
theorem fr34_7 (cs : List C) : fieldAddrX (TT.of Tryd.prog) 34 7 (.of (.ref cs)) = Pe.out (.of (.ref (cs.drop 7))) := by simp only [fieldAddrX, fieldOff, T34]; rfl
theorem fa34_17 (r o : Nat) : fieldAddrX (TT.of Tryd.prog) 34 17 (.ptr r o) = Pe.out (.ptr r (o + 21)) := by simp only [fieldAddrX, fieldOff, T34]; rfl
theorem fa34_18 (r o : Nat) : fieldAddrX (TT.of Tryd.prog) 34 18 (.ptr r o) = Pe.out (.ptr r (o + 22)) := by simp only [fieldAddrX, fieldOff, T34]; rfl
theorem U37 : (TT.of Tryd.prog 37).map (·.und) = some (.slice 9) := by kernel_rfl
theorem T37 : TT.of Tryd.prog 37 = some ⟨.slice 9, 1, 24, false, [.slice none 0 0], []⟩ := by kernel_rfl
theorem P37 (x : X) (xs : List X) : pieceX (TT.of Tryd.prog) 37 (x :: xs) = some x := by simp only [pieceX, T37]; rfl
theorem T43 : TT.of Tryd.prog 43 = some ⟨.struct #[{ name := "Kind", type := 3, offset := 0, embedded := false, tag := "", pkgPath := "", byteOffset := 0 }, { name := "N", type := 3, offset := 1, embedded := false, tag := "", pkgPath := "", byteOffset := 8 }, { name := "S", type := 9, offset := 2, embedded := false, tag := "", pkgPath := "", byteOffset := 16 }], 3, 32, true, [.int .i64 0, .int .i64 0, .string ⟨#[]⟩], [(0, 1), (1, 1), (2, 1)]⟩ := by kernel_rfl
theorem P43 (x0 x1 x2 : X) (xs : List X) : pieceX (TT.of Tryd.prog) 43 (x0 :: x1 :: x2 :: xs) = some (.agg [x0, x1, x2]) := by simp only [pieceX, T43]; rfl
theorem fa43_0 (r o : Nat) : fieldAddrX (TT.of Tryd.prog) 43 0 (.ptr r o) = Pe.out (.ptr r (o + 0)) := by simp only [fieldAddrX, fieldOff, T43]; rfl
theorem fa43_1 (r o : Nat) : fieldAddrX (TT.of Tryd.prog) 43 1 (.ptr r o) = Pe.out (.ptr r (o + 1)) := by simp only [fieldAddrX, fieldOff, T43]; rfl
theorem fa43_2 (r o : Nat) : fieldAddrX (TT.of Tryd.prog) 43 2 (.ptr r o) = Pe.out (.ptr r (o + 2)) := by simp only [fieldAddrX, fieldOff, T43]; rfl
theorem U44 : (TT.of Tryd.prog 44).map (·.und) = some (.slice 97) := by kernel_rfl
theorem T44 : TT.of Tryd.prog 44 = some ⟨.slice 97, 1, 24, false, [.slice none 0 0], []⟩ := by kernel_rfl
theorem Q44 (x : C) (xs : List C) : pieceC (TT.of Tryd.prog) 44 (x :: xs) = some x := by simp only [pieceC, T44]; rfl
theorem T46 : TT.of Tryd.prog 46 = some ⟨.struct #[{ name := "Op", type := 3, offset := 0, embedded := false, tag := "", pkgPath := "", byteOffset := 0 }, { name := "V", type := 43, offset := 1, embedded := false, tag := "", pkgPath := "", byteOffset := 8 }, { name := "Depth", type := 3, offset := 4, embedded := false, tag := "", pkgPath := "", byteOffset := 40 }, { name := "At", type := 3, offset := 5, embedded := false, tag := "", pkgPath := "", byteOffset := 48 }, { name := "Name", type := 9, offset := 6, embedded := false, tag := "", pkgPath := "", byteOffset := 56 }, { name := "Kids", type := 24, offset := 7, embedded := false, tag := "", pkgPath := "", byteOffset := 72 }, { name := "Sub", type := 44, offset := 8, embedded := false, tag := "", pkgPath := "", byteOffset := 96 }, { name := "Type", type := 3, offset := 9, embedded := false, tag := "", pkgPath := "", byteOffset := 120 }], 10, 128, true, [.int .i64 0, .int .i64 0, .int .i64 0, .string ⟨#[]⟩, .int .i64 0, .int .i64 0, .string ⟨#[]⟩, .slice none 0 0, .slice none 0 0, .int .i64 0], [(0, 1), (1, 3), (4, 1), (5, 1), (6, 1), (7, 1), (8, 1), (9, 1)]⟩ := by kernel_rfl
theorem P46 (x0 x1 x2 x3 x4 x5 x6 x7 x8 x9 : X) (xs : List X) : pieceX (TT.of Tryd.prog) 46 (x0 :: x1 :: x2 :: x3 :: x4 :: x5 :: x6 :: x7 :: x8 :: x9 :: xs) = some (.agg [x0, x1, x2, x3, x4, x5, x6, x7, x8, x9]) := by simp only [pieceX, T46]; rfl
theorem Q46 (x0 x1 x2 x3 x4 x5 x6 x7 x8 x9 : C) (xs : List C) : pieceC (TT.of Tryd.prog) 46 (x0 :: x1 :: x2 :: x3 :: x4 :: x5 :: x6 :: x7 :: x8 :: x9 :: xs) = some (.agg [x0, x1, x2, x3, x4, x5, x6, x7, x8, x9]) := by simp only [pieceC, T46]; rfl
theorem fa46_0 (r o : Nat) : fieldAddrX (TT.of Tryd.prog) 46 0 (.ptr r o) = Pe.out (.ptr r (o + 0)) := by simp only [fieldAddrX, fieldOff, T46]; rfl
theorem fa46_1 (r o : Nat) : fieldAddrX (TT.of Tryd.prog) 46 1 (.ptr r o) = Pe.out (.ptr r (o + 1)) := by simp only [fieldAddrX, fieldOff, T46]; rfl
theorem fa46_2 (r o : Nat) : fieldAddrX (TT.of Tryd.prog) 46 2 (.ptr r o) = Pe.out (.ptr r (o + 4)) := by simp only [fieldAddrX, fieldOff, T46]; rfl
theorem fa46_3 (r o : Nat) : fieldAddrX (TT.of Tryd.prog) 46 3 (.ptr r o) = Pe.out (.ptr r (o + 5)) := by simp only [fieldAddrX, fieldOff, T46]; rfl
theorem fa46_4 (r o : Nat) : fieldAddrX (TT.of Tryd.prog) 46 4 (.ptr r o) = Pe.out (.ptr r (o + 6)) := by simp only [fieldAddrX, fieldOff, T46]; rfl
theorem fa46_5 (r o : Nat) : fieldAddrX (TT.of Tryd.prog) 46 5 (.ptr r o) = Pe.out (.ptr r (o + 7)) := by simp only [fieldAddrX, fieldOff, T46]; rfl
theorem fr46_5 (cs : List C) : fieldAddrX (TT.of Tryd.prog) 46 5 (.of (.ref cs)) = Pe.out (.of (.ref (cs.drop 7))) := by simp only [fieldAddrX, fieldOff, T46]; rfl
theorem fr46_6 (cs : List C) : fieldAddrX (TT.of Tryd.prog) 46 6 (.of (.ref cs)) = Pe.out (.of (.ref (cs.drop 8))) := by simp only [fieldAddrX, fieldOff, T46]; rfl
theorem T54 : TT.of Tryd.prog 54 = some ⟨.struct #[{ name := "Table", type := 9, offset := 0, embedded := false, tag := "", pkgPath := "", byteOffset := 0 }, { name := "Name", type := 9, offset := 1, embedded := false, tag := "", pkgPath := "", byteOffset := 16 }, { name := "Type", type := 3, offset := 2, embedded := false, tag := "", pkgPath := "", byteOffset := 32 }], 3, 40, true, [.string ⟨#[]⟩, .string ⟨#[]⟩, .int .i64 0], [(0, 1), (1, 1), (2, 1)]⟩ := by kernel_rfl
theorem Q54 (x0 x1 x2 : C) (xs : List C) : pieceC (TT.of Tryd.prog) 54 (x0 :: x1 :: x2 :: xs) = some (.agg [x0, x1, x2]) := by simp only [pieceC, T54]; rfl
theorem fa54_0 (r o : Nat) : fieldAddrX (TT.of Tryd.prog) 54 0 (.ptr r o) = Pe.out (.ptr r (o + 0)) := by simp only [fieldAddrX, fieldOff, T54]; rfl
theorem fr54_0 (cs : List C) : fieldAddrX (TT.of Tryd.prog) 54 0 (.of (.ref cs)) = Pe.out (.of (.ref (cs.drop 0))) := by simp only [fieldAddrX, fieldOff, T54]; rfl
theorem fa54_1 (r o : Nat) : fieldAddrX (TT.of Tryd.prog) 54 1 (.ptr r o) = Pe.out (.ptr r (o + 1)) := by simp only [fieldAddrX, fieldOff, T54]; rfl
theorem fr54_1 (cs : List C) : fieldAddrX (TT.of Tryd.prog) 54 1 (.of (.ref cs)) = Pe.out (.of (.ref (cs.drop 1))) := by simp only [fieldAddrX, fieldOff, T54]; rfl
theorem T58 : TT.of Tryd.prog 58 = some ⟨.struct #[{ name := "counts", type := 27, offset := 0, embedded := false, tag := "", pkgPath := "tabellion/explain", byteOffset := 0 }, { name := "lines", type := 37, offset := 1, embedded := false, tag := "", pkgPath := "tabellion/explain", byteOffset := 24 }], 2, 48, true, [.slice none 0 0, .slice none 0 0], [(0, 1), (1, 1)]⟩ := by kernel_rfl
theorem fa58_0 (r o : Nat) : fieldAddrX (TT.of Tryd.prog) 58 0 (.ptr r o) = Pe.out (.ptr r (o + 0)) := by simp only [fieldAddrX, fieldOff, T58]; rfl
theorem fa58_1 (r o : Nat) : fieldAddrX (TT.of Tryd.prog) 58 1 (.ptr r o) = Pe.out (.ptr r (o + 1)) := by simp only [fieldAddrX, fieldOff, T58]; rfl
theorem T63 : TT.of Tryd.prog 63 = some ⟨.map 3 9, 1, 8, false, [.map none], []⟩ := by kernel_rfl
theorem T97 : TT.of Tryd.prog 97 = some ⟨.struct #[{ name := "Op", type := 3, offset := 0, embedded := false, tag := "", pkgPath := "", byteOffset := 0 }, { name := "Table", type := 9, offset := 1, embedded := false, tag := "", pkgPath := "", byteOffset := 8 }, { name := "Cols", type := 22, offset := 2, embedded := false, tag := "", pkgPath := "", byteOffset := 24 }, { name := "Kids", type := 44, offset := 3, embedded := false, tag := "", pkgPath := "", byteOffset := 48 }, { name := "Terms", type := 24, offset := 4, embedded := false, tag := "", pkgPath := "", byteOffset := 72 }, { name := "Aggs", type := 25, offset := 5, embedded := false, tag := "", pkgPath := "", byteOffset := 96 }, { name := "Keys", type := 26, offset := 6, embedded := false, tag := "", pkgPath := "", byteOffset := 120 }, { name := "Limit", type := 3, offset := 7, embedded := false, tag := "", pkgPath := "", byteOffset := 144 }, { name := "Skip", type := 3, offset := 8, embedded := false, tag := "", pkgPath := "", byteOffset := 152 }, { name := "All", type := 4, offset := 9, embedded := false, tag := "", pkgPath := "", byteOffset := 160 }, { name := "Rows", type := 32, offset := 10, embedded := false, tag := "", pkgPath := "", byteOffset := 168 }], 11, 192, true, [.int .i64 0, .string ⟨#[]⟩, .slice none 0 0, .slice none 0 0, .slice none 0 0, .slice none 0 0, .slice none 0 0, .int .i64 0, .int .i64 0, .bool false, .slice none 0 0], [(0, 1), (1, 1), (2, 1), (3, 1), (4, 1), (5, 1), (6, 1), (7, 1), (8, 1), (9, 1), (10, 1)]⟩ := by kernel_rfl
theorem fr97_3 (cs : List C) : fieldAddrX (TT.of Tryd.prog) 97 3 (.of (.ref cs)) = Pe.out (.of (.ref (cs.drop 3))) := by simp only [fieldAddrX, fieldOff, T97]; rfl
theorem fr97_4 (cs : List C) : fieldAddrX (TT.of Tryd.prog) 97 4 (.of (.ref cs)) = Pe.out (.of (.ref (cs.drop 4))) := by simp only [fieldAddrX, fieldOff, T97]; rfl
theorem fr97_5 (cs : List C) : fieldAddrX (TT.of Tryd.prog) 97 5 (.of (.ref cs)) = Pe.out (.of (.ref (cs.drop 5))) := by simp only [fieldAddrX, fieldOff, T97]; rfl
theorem fr97_10 (cs : List C) : fieldAddrX (TT.of Tryd.prog) 97 10 (.of (.ref cs)) = Pe.out (.of (.ref (cs.drop 10))) := by simp only [fieldAddrX, fieldOff, T97]; rfl
theorem T99 : TT.of Tryd.prog 99 = some ⟨.struct #[{ name := "Name", type := 9, offset := 0, embedded := false, tag := "", pkgPath := "", byteOffset := 0 }, { name := "Distinct", type := 4, offset := 1, embedded := false, tag := "", pkgPath := "", byteOffset := 16 }, { name := "T", type := 24, offset := 2, embedded := false, tag := "", pkgPath := "", byteOffset := 24 }], 3, 48, true, [.string ⟨#[]⟩, .bool false, .slice none 0 0], [(0, 1), (1, 1), (2, 1)]⟩ := by kernel_rfl
theorem fr99_2 (cs : List C) : fieldAddrX (TT.of Tryd.prog) 99 2 (.of (.ref cs)) = Pe.out (.of (.ref (cs.drop 2))) := by simp only [fieldAddrX, fieldOff, T99]; rfl
theorem E22 : Pe.elemOf (TT.of Tryd.prog) 22 = some (54, ⟨.struct #[{ name := "Table", type := 9, offset := 0, embedded := false, tag := "", pkgPath := "", byteOffset := 0 }, { name := "Name", type := 9, offset := 1, embedded := false, tag := "", pkgPath := "", byteOffset := 16 }, { name := "Type", type := 3, offset := 2, embedded := false, tag := "", pkgPath := "", byteOffset := 32 }], 3, 40, true, [.string ⟨#[]⟩, .string ⟨#[]⟩, .int .i64 0], [(0, 1), (1, 1), (2, 1)]⟩) := by simp only [Pe.elemOf, T22, T54, Option.map_some]
theorem E23 : Pe.elemOf (TT.of Tryd.prog) 23 = some (34, ⟨.struct #[{ name := "Op", type := 3, offset := 0, embedded := false, tag := "", pkgPath := "", byteOffset := 0 }, { name := "Table", type := 9, offset := 1, embedded := false, tag := "", pkgPath := "", byteOffset := 8 }, { name := "Index", type := 9, offset := 2, embedded := false, tag := "", pkgPath := "", byteOffset := 24 }, { name := "Cols", type := 22, offset := 3, embedded := false, tag := "", pkgPath := "", byteOffset := 40 }, { name := "Kids", type := 23, offset := 4, embedded := false, tag := "", pkgPath := "", byteOffset := 64 }, { name := "Terms", type := 24, offset := 5, embedded := false, tag := "", pkgPath := "", byteOffset := 88 }, { name := "LKeys", type := 24, offset := 6, embedded := false, tag := "", pkgPath := "", byteOffset := 112 }, { name := "RKeys", type := 24, offset := 7, embedded := false, tag := "", pkgPath := "", byteOffset := 136 }, { name := "Aggs", type := 25, offset := 8, embedded := false, tag := "", pkgPath := "", byteOffset := 160 }, { name := "Keys", type := 26, offset := 9, embedded := false, tag := "", pkgPath := "", byteOffset := 184 }, { name := "Out", type := 27, offset := 10, embedded := false, tag := "", pkgPath := "", byteOffset := 208 }, { name := "Lo", type := 31, offset := 11, embedded := false, tag := "", pkgPath := "", byteOffset := 232 }, { name := "Hi", type := 31, offset := 14, embedded := false, tag := "", pkgPath := "", byteOffset := 264 }, { name := "Limit", type := 3, offset := 17, embedded := false, tag := "", pkgPath := "", byteOffset := 296 }, { name := "Skip", type := 3, offset := 18, embedded := false, tag := "", pkgPath := "", byteOffset := 304 }, { name := "All", type := 4, offset := 19, embedded := false, tag := "", pkgPath := "", byteOffset := 312 }, { name := "Rows", type := 32, offset := 20, embedded := false, tag := "", pkgPath := "", byteOffset := 320 }, { name := "Est", type := 3, offset := 21, embedded := false, tag := "", pkgPath := "", byteOffset := 344 }, { name := "Cost", type := 3, offset := 22, embedded := false, tag := "", pkgPath := "", byteOffset := 352 }], 23, 360, true, [.int .i64 0, .string ⟨#[]⟩, .string ⟨#[]⟩, .slice none 0 0, .slice none 0 0, .slice none 0 0, .slice none 0 0, .slice none 0 0, .slice none 0 0, .slice none 0 0, .slice none 0 0, .bool false, .bool false, .slice none 0 0, .bool false, .bool false, .slice none 0 0, .int .i64 0, .int .i64 0, .bool false, .slice none 0 0, .int .i64 0, .int .i64 0], [(0, 1), (1, 1), (2, 1), (3, 1), (4, 1), (5, 1), (6, 1), (7, 1), (8, 1), (9, 1), (10, 1), (11, 3), (14, 3), (17, 1), (18, 1), (19, 1), (20, 1), (21, 1), (22, 1)]⟩) := by simp only [Pe.elemOf, T23, T34, Option.map_some]
theorem E24 : Pe.elemOf (TT.of Tryd.prog) 24 = some (46, ⟨.struct #[{ name := "Op", type := 3, offset := 0, embedded := false, tag := "", pkgPath := "", byteOffset := 0 }, { name := "V", type := 43, offset := 1, embedded := false, tag := "", pkgPath := "", byteOffset := 8 }, { name := "Depth", type := 3, offset := 4, embedded := false, tag := "", pkgPath := "", byteOffset := 40 }, { name := "At", type := 3, offset := 5, embedded := false, tag := "", pkgPath := "", byteOffset := 48 }, { name := "Name", type := 9, offset := 6, embedded := false, tag := "", pkgPath := "", byteOffset := 56 }, { name := "Kids", type := 24, offset := 7, embedded := false, tag := "", pkgPath := "", byteOffset := 72 }, { name := "Sub", type := 44, offset := 8, embedded := false, tag := "", pkgPath := "", byteOffset := 96 }, { name := "Type", type := 3, offset := 9, embedded := false, tag := "", pkgPath := "", byteOffset := 120 }], 10, 128, true, [.int .i64 0, .int .i64 0, .int .i64 0, .string ⟨#[]⟩, .int .i64 0, .int .i64 0, .string ⟨#[]⟩, .slice none 0 0, .slice none 0 0, .int .i64 0], [(0, 1), (1, 3), (4, 1), (5, 1), (6, 1), (7, 1), (8, 1), (9, 1)]⟩) := by simp only [Pe.elemOf, T24, T46, Option.map_some]
theorem E25 : Pe.elemOf (TT.of Tryd.prog) 25 = some (99, ⟨.struct #[{ name := "Name", type := 9, offset := 0, embedded := false, tag := "", pkgPath := "", byteOffset := 0 }, { name := "Distinct", type := 4, offset := 1, embedded := false, tag := "", pkgPath := "", byteOffset := 16 }, { name := "T", type := 24, offset := 2, embedded := false, tag := "", pkgPath := "", byteOffset := 24 }], 3, 48, true, [.string ⟨#[]⟩, .bool false, .slice none 0 0], [(0, 1), (1, 1), (2, 1)]⟩) := by simp only [Pe.elemOf, T25, T99, Option.map_some]
theorem E27 : Pe.elemOf (TT.of Tryd.prog) 27 = some (3, ⟨.int .i64, 1, 8, false, [.int .i64 0], []⟩) := by simp only [Pe.elemOf, T27, T3, Option.map_some]
theorem E37 : Pe.elemOf (TT.of Tryd.prog) 37 = some (9, ⟨.string, 1, 16, false, [.string ⟨#[]⟩], []⟩) := by simp only [Pe.elemOf, T37, T9, Option.map_some]
theorem E44 : Pe.elemOf (TT.of Tryd.prog) 44 = some (97, ⟨.struct #[{ name := "Op", type := 3, offset := 0, embedded := false, tag := "", pkgPath := "", byteOffset := 0 }, { name := "Table", type := 9, offset := 1, embedded := false, tag := "", pkgPath := "", byteOffset := 8 }, { name := "Cols", type := 22, offset := 2, embedded := false, tag := "", pkgPath := "", byteOffset := 24 }, { name := "Kids", type := 44, offset := 3, embedded := false, tag := "", pkgPath := "", byteOffset := 48 }, { name := "Terms", type := 24, offset := 4, embedded := false, tag := "", pkgPath := "", byteOffset := 72 }, { name := "Aggs", type := 25, offset := 5, embedded := false, tag := "", pkgPath := "", byteOffset := 96 }, { name := "Keys", type := 26, offset := 6, embedded := false, tag := "", pkgPath := "", byteOffset := 120 }, { name := "Limit", type := 3, offset := 7, embedded := false, tag := "", pkgPath := "", byteOffset := 144 }, { name := "Skip", type := 3, offset := 8, embedded := false, tag := "", pkgPath := "", byteOffset := 152 }, { name := "All", type := 4, offset := 9, embedded := false, tag := "", pkgPath := "", byteOffset := 160 }, { name := "Rows", type := 32, offset := 10, embedded := false, tag := "", pkgPath := "", byteOffset := 168 }], 11, 192, true, [.int .i64 0, .string ⟨#[]⟩, .slice none 0 0, .slice none 0 0, .slice none 0 0, .slice none 0 0, .slice none 0 0, .int .i64 0, .int .i64 0, .bool false, .slice none 0 0], [(0, 1), (1, 1), (2, 1), (3, 1), (4, 1), (5, 1), (6, 1), (7, 1), (8, 1), (9, 1), (10, 1)]⟩) := by simp only [Pe.elemOf, T44, T97, Option.map_some]
theorem M63 : mapTy (TT.of Tryd.prog) 63 = some (.int .i64, 9) := by simp only [mapTy, T63, T3]; rfl
theorem ok5 : fnOk Tryd.prog 5 = true := by kernel_rfl
theorem ar5 : arity Tryd.prog 5 = Tryd.f5.ntmps := by unfold arity; rw [Tryd.func5]
theorem rv5 : resVars Tryd.prog 5 = Tryd.f5.results.toList := by unfold resVars; rw [Tryd.func5]
theorem body5 : bodyOf Tryd.prog 5 = Tryd.f5.body.getD .skip := by unfold bodyOf; rw [Tryd.func5]
theorem ok6 : fnOk Tryd.prog 6 = true := by kernel_rfl
theorem ar6 : arity Tryd.prog 6 = Tryd.f6.ntmps := by unfold arity; rw [Tryd.func6]
theorem rv6 : resVars Tryd.prog 6 = Tryd.f6.results.toList := by unfold resVars; rw [Tryd.func6]
theorem body6 : bodyOf Tryd.prog 6 = Tryd.f6.body.getD .skip := by unfold bodyOf; rw [Tryd.func6]
theorem call6 : callable Tryd.prog 6 = true := by kernel_rfl
-- 7 tabellion/tabellionlaw30.awake
theorem ok7 : fnOk Tryd.prog 7 = true := by kernel_rfl
theorem ar7 : arity Tryd.prog 7 = Tryd.f7.ntmps := by unfold arity; rw [Tryd.func7]
theorem rv7 : resVars Tryd.prog 7 = Tryd.f7.results.toList := by unfold resVars; rw [Tryd.func7]
theorem body7 : bodyOf Tryd.prog 7 = Tryd.f7.body.getD .skip := by unfold bodyOf; rw [Tryd.func7]
theorem call7 : callable Tryd.prog 7 = true := by kernel_rfl
-- 8 tabellion/explain.Lines
theorem ok8 : fnOk Tryd.prog 8 = true := by kernel_rfl
theorem ar8 : arity Tryd.prog 8 = Tryd.f8.ntmps := by unfold arity; rw [Tryd.func8]
theorem rv8 : resVars Tryd.prog 8 = Tryd.f8.results.toList := by unfold resVars; rw [Tryd.func8]
theorem body8 : bodyOf Tryd.prog 8 = Tryd.f8.body.getD .skip := by unfold bodyOf; rw [Tryd.func8]
theorem call8 : callable Tryd.prog 8 = true := by kernel_rfl
-- 9 tabellion/tabellionref30.Lines
theorem ok11 : fnOk Tryd.prog 11 = true := by kernel_rfl
theorem ar11 : arity Tryd.prog 11 = Tryd.f11.ntmps := by unfold arity; rw [Tryd.func11]
theorem rv11 : resVars Tryd.prog 11 = Tryd.f11.results.toList := by unfold resVars; rw [Tryd.func11]
theorem body11 : bodyOf Tryd.prog 11 = Tryd.f11.body.getD .skip := by unfold bodyOf; rw [Tryd.func11]
theorem call11 : callable Tryd.prog 11 = true := by kernel_rfl
-- 12 tabellion/tabellionref30.Nodes
theorem ok13 : fnOk Tryd.prog 13 = true := by kernel_rfl
theorem ar13 : arity Tryd.prog 13 = Tryd.f13.ntmps := by unfold arity; rw [Tryd.func13]
theorem rv13 : resVars Tryd.prog 13 = Tryd.f13.results.toList := by unfold resVars; rw [Tryd.func13]
theorem body13 : bodyOf Tryd.prog 13 = Tryd.f13.body.getD .skip := by unfold bodyOf; rw [Tryd.func13]
theorem call13 : callable Tryd.prog 13 = true := by kernel_rfl
-- 14 tabellion/explain.Term
theorem ok14 : fnOk Tryd.prog 14 = true := by kernel_rfl
theorem ar14 : arity Tryd.prog 14 = Tryd.f14.ntmps := by unfold arity; rw [Tryd.func14]
theorem rv14 : resVars Tryd.prog 14 = Tryd.f14.results.toList := by unfold resVars; rw [Tryd.func14]
theorem body14 : bodyOf Tryd.prog 14 = Tryd.f14.body.getD .skip := by unfold bodyOf; rw [Tryd.func14]
theorem call14 : callable Tryd.prog 14 = true := by kernel_rfl
-- 15 tabellion/tabellionref30.Term
theorem ok16 : fnOk Tryd.prog 16 = true := by kernel_rfl
theorem ar16 : arity Tryd.prog 16 = Tryd.f16.ntmps := by unfold arity; rw [Tryd.func16]
theorem rv16 : resVars Tryd.prog 16 = Tryd.f16.results.toList := by unfold resVars; rw [Tryd.func16]
theorem body16 : bodyOf Tryd.prog 16 = Tryd.f16.body.getD .skip := by unfold bodyOf; rw [Tryd.func16]
theorem call16 : callable Tryd.prog 16 = true := by kernel_rfl
-- 17 tabellion/tabellionlaw30.ends
theorem ok17 : fnOk Tryd.prog 17 = true := by kernel_rfl
theorem ar17 : arity Tryd.prog 17 = Tryd.f17.ntmps := by unfold arity; rw [Tryd.func17]
theorem rv17 : resVars Tryd.prog 17 = Tryd.f17.results.toList := by unfold resVars; rw [Tryd.func17]
theorem body17 : bodyOf Tryd.prog 17 = Tryd.f17.body.getD .skip := by unfold bodyOf; rw [Tryd.func17]
theorem call17 : callable Tryd.prog 17 = true := by kernel_rfl
-- 18 tabellion/tabellionlaw30.spent
theorem ok18 : fnOk Tryd.prog 18 = true := by kernel_rfl
theorem ar18 : arity Tryd.prog 18 = Tryd.f18.ntmps := by unfold arity; rw [Tryd.func18]
theorem rv18 : resVars Tryd.prog 18 = Tryd.f18.results.toList := by unfold resVars; rw [Tryd.func18]
theorem body18 : bodyOf Tryd.prog 18 = Tryd.f18.body.getD .skip := by unfold bodyOf; rw [Tryd.func18]
theorem call18 : callable Tryd.prog 18 = true := by kernel_rfl
-- 19 tabellion/tabellionlaw30.less
theorem ok19 : fnOk Tryd.prog 19 = true := by kernel_rfl
theorem ar19 : arity Tryd.prog 19 = Tryd.f19.ntmps := by unfold arity; rw [Tryd.func19]
theorem rv19 : resVars Tryd.prog 19 = Tryd.f19.results.toList := by unfold resVars; rw [Tryd.func19]
theorem body19 : bodyOf Tryd.prog 19 = Tryd.f19.body.getD .skip := by unfold bodyOf; rw [Tryd.func19]
theorem call19 : callable Tryd.prog 19 = true := by kernel_rfl
-- 20 (*tabellion/explain.teller).node
theorem ok20 : fnOk Tryd.prog 20 = true := by kernel_rfl
theorem ar20 : arity Tryd.prog 20 = Tryd.f20.ntmps := by unfold arity; rw [Tryd.func20]
theorem rv20 : resVars Tryd.prog 20 = Tryd.f20.results.toList := by unfold resVars; rw [Tryd.func20]
theorem body20 : bodyOf Tryd.prog 20 = Tryd.f20.body.getD .skip := by unfold bodyOf; rw [Tryd.func20]
theorem call20 : callable Tryd.prog 20 = true := by kernel_rfl
-- 21 tabellion/tabellionref30.under
theorem ok22 : fnOk Tryd.prog 22 = true := by kernel_rfl
theorem ar22 : arity Tryd.prog 22 = Tryd.f22.ntmps := by unfold arity; rw [Tryd.func22]
theorem rv22 : resVars Tryd.prog 22 = Tryd.f22.results.toList := by unfold resVars; rw [Tryd.func22]
theorem body22 : bodyOf Tryd.prog 22 = Tryd.f22.body.getD .skip := by unfold bodyOf; rw [Tryd.func22]
theorem call22 : callable Tryd.prog 22 = true := by kernel_rfl
-- 23 tabellion/explain.signs
theorem ok23 : fnOk Tryd.prog 23 = true := by kernel_rfl
theorem ar23 : arity Tryd.prog 23 = Tryd.f23.ntmps := by unfold arity; rw [Tryd.func23]
theorem rv23 : resVars Tryd.prog 23 = Tryd.f23.results.toList := by unfold resVars; rw [Tryd.func23]
theorem body23 : bodyOf Tryd.prog 23 = Tryd.f23.body.getD .skip := by unfold bodyOf; rw [Tryd.func23]
theorem call23 : callable Tryd.prog 23 = true := by kernel_rfl
-- 24 tabellion/value.Text
theorem ok24 : fnOk Tryd.prog 24 = true := by kernel_rfl
theorem ar24 : arity Tryd.prog 24 = Tryd.f24.ntmps := by unfold arity; rw [Tryd.func24]
theorem rv24 : resVars Tryd.prog 24 = Tryd.f24.results.toList := by unfold resVars; rw [Tryd.func24]
theorem body24 : bodyOf Tryd.prog 24 = Tryd.f24.body.getD .skip := by unfold bodyOf; rw [Tryd.func24]
theorem call24 : callable Tryd.prog 24 = true := by kernel_rfl
-- 25 tabellion/explain.column
theorem ok25 : fnOk Tryd.prog 25 = true := by kernel_rfl
theorem ar25 : arity Tryd.prog 25 = Tryd.f25.ntmps := by unfold arity; rw [Tryd.func25]
theorem rv25 : resVars Tryd.prog 25 = Tryd.f25.results.toList := by unfold resVars; rw [Tryd.func25]
theorem body25 : bodyOf Tryd.prog 25 = Tryd.f25.body.getD .skip := by unfold bodyOf; rw [Tryd.func25]
theorem call25 : callable Tryd.prog 25 = true := by kernel_rfl
-- 26 strings.Join
theorem call26 : callable Tryd.prog 26 = true := by kernel_rfl
-- 27 tabellion/explain.cases
theorem ok27 : fnOk Tryd.prog 27 = true := by kernel_rfl
theorem ar27 : arity Tryd.prog 27 = Tryd.f27.ntmps := by unfold arity; rw [Tryd.func27]
theorem rv27 : resVars Tryd.prog 27 = Tryd.f27.results.toList := by unfold resVars; rw [Tryd.func27]
theorem body27 : bodyOf Tryd.prog 27 = Tryd.f27.body.getD .skip := by unfold bodyOf; rw [Tryd.func27]
theorem call27 : callable Tryd.prog 27 = true := by kernel_rfl
-- 28 tabellion/tabellionref03.Text
theorem call35 : callable Tryd.prog 35 = true := by kernel_rfl
-- 36 tabellion/tabellionlaw30.terms
theorem ok36 : fnOk Tryd.prog 36 = true := by kernel_rfl
theorem ar36 : arity Tryd.prog 36 = Tryd.f36.ntmps := by unfold arity; rw [Tryd.func36]
theorem rv36 : resVars Tryd.prog 36 = Tryd.f36.results.toList := by unfold resVars; rw [Tryd.func36]
theorem body36 : bodyOf Tryd.prog 36 = Tryd.f36.body.getD .skip := by unfold bodyOf; rw [Tryd.func36]
theorem call36 : callable Tryd.prog 36 = true := by kernel_rfl
-- 37 tabellion/value.Num
theorem ok37 : fnOk Tryd.prog 37 = true := by kernel_rfl
theorem ar37 : arity Tryd.prog 37 = Tryd.f37.ntmps := by unfold arity; rw [Tryd.func37]
theorem rv37 : resVars Tryd.prog 37 = Tryd.f37.results.toList := by unfold resVars; rw [Tryd.func37]
theorem body37 : bodyOf Tryd.prog 37 = Tryd.f37.body.getD .skip := by unfold bodyOf; rw [Tryd.func37]
theorem call37 : callable Tryd.prog 37 = true := by kernel_rfl
-- 38 tabellion/explain.words
theorem ok38 : fnOk Tryd.prog 38 = true := by kernel_rfl
theorem ar38 : arity Tryd.prog 38 = Tryd.f38.ntmps := by unfold arity; rw [Tryd.func38]
theorem rv38 : resVars Tryd.prog 38 = Tryd.f38.results.toList := by unfold resVars; rw [Tryd.func38]
theorem body38 : bodyOf Tryd.prog 38 = Tryd.f38.body.getD .skip := by unfold bodyOf; rw [Tryd.func38]
theorem call38 : callable Tryd.prog 38 = true := by kernel_rfl
-- 39 tabellion/explain.keys
theorem ok39 : fnOk Tryd.prog 39 = true := by kernel_rfl
theorem ar39 : arity Tryd.prog 39 = Tryd.f39.ntmps := by unfold arity; rw [Tryd.func39]
theorem rv39 : resVars Tryd.prog 39 = Tryd.f39.results.toList := by unfold resVars; rw [Tryd.func39]
theorem body39 : bodyOf Tryd.prog 39 = Tryd.f39.body.getD .skip := by unfold bodyOf; rw [Tryd.func39]
theorem call39 : callable Tryd.prog 39 = true := by kernel_rfl
-- 40 tabellion/explain.terms
theorem ok40 : fnOk Tryd.prog 40 = true := by kernel_rfl
theorem ar40 : arity Tryd.prog 40 = Tryd.f40.ntmps := by unfold arity; rw [Tryd.func40]
theorem rv40 : resVars Tryd.prog 40 = Tryd.f40.results.toList := by unfold resVars; rw [Tryd.func40]
theorem body40 : bodyOf Tryd.prog 40 = Tryd.f40.body.getD .skip := by unfold bodyOf; rw [Tryd.func40]
theorem call40 : callable Tryd.prog 40 = true := by kernel_rfl
-- 41 strings.Repeat
theorem call41 : callable Tryd.prog 41 = true := by kernel_rfl
-- 42 tabellion/tabellionref02.Text
theorem ok44 : fnOk Tryd.prog 44 = true := by kernel_rfl
theorem ar44 : arity Tryd.prog 44 = Tryd.f44.ntmps := by unfold arity; rw [Tryd.func44]
theorem rv44 : resVars Tryd.prog 44 = Tryd.f44.results.toList := by unfold resVars; rw [Tryd.func44]
theorem body44 : bodyOf Tryd.prog 44 = Tryd.f44.body.getD .skip := by unfold bodyOf; rw [Tryd.func44]
theorem call44 : callable Tryd.prog 44 = true := by kernel_rfl
-- 45 strconv.FormatBool
theorem ok45 : fnOk Tryd.prog 45 = true := by kernel_rfl
theorem ar45 : arity Tryd.prog 45 = Tryd.f45.ntmps := by unfold arity; rw [Tryd.func45]
theorem rv45 : resVars Tryd.prog 45 = Tryd.f45.results.toList := by unfold resVars; rw [Tryd.func45]
theorem body45 : bodyOf Tryd.prog 45 = Tryd.f45.body.getD .skip := by unfold bodyOf; rw [Tryd.func45]
theorem call45 : callable Tryd.prog 45 = true := by kernel_rfl
-- 46 strings.ReplaceAll
theorem call46 : callable Tryd.prog 46 = true := by kernel_rfl
-- 47 (*strings.Builder).Grow
theorem ok51 : fnOk Tryd.prog 51 = true := by kernel_rfl
theorem ar51 : arity Tryd.prog 51 = Tryd.f51.ntmps := by unfold arity; rw [Tryd.func51]
theorem rv51 : resVars Tryd.prog 51 = Tryd.f51.results.toList := by unfold resVars; rw [Tryd.func51]
theorem body51 : bodyOf Tryd.prog 51 = Tryd.f51.body.getD .skip := by unfold bodyOf; rw [Tryd.func51]
theorem call51 : callable Tryd.prog 51 = true := by kernel_rfl
-- 52 tabellion/explain.kid
theorem ok52 : fnOk Tryd.prog 52 = true := by kernel_rfl
theorem ar52 : arity Tryd.prog 52 = Tryd.f52.ntmps := by unfold arity; rw [Tryd.func52]
theorem rv52 : resVars Tryd.prog 52 = Tryd.f52.results.toList := by unfold resVars; rw [Tryd.func52]
theorem body52 : bodyOf Tryd.prog 52 = Tryd.f52.body.getD .skip := by unfold bodyOf; rw [Tryd.func52]
theorem call52 : callable Tryd.prog 52 = true := by kernel_rfl
-- 54 strings.HasPrefix
theorem obj6 : objF 6 = false := rfl
theorem obj7 : objF 7 = false := rfl
theorem obj8 : objF 8 = false := rfl
theorem tk8 : tkF 8 = false := rfl
theorem obj11 : objF 11 = false := rfl
theorem tk11 : tkF 11 = false := rfl
theorem obj13 : objF 13 = false := rfl
theorem obj14 : objF 14 = false := rfl
theorem obj16 : objF 16 = false := rfl
theorem obj17 : objF 17 = false := rfl
theorem obj18 : objF 18 = false := rfl
theorem obj19 : objF 19 = false := rfl
theorem obj20 : objF 20 = true := rfl
theorem tk20 : tkF 20 = false := rfl
theorem obj22 : objF 22 = false := rfl
theorem obj23 : objF 23 = true := rfl
theorem obj24 : objF 24 = false := rfl
theorem obj25 : objF 25 = false := rfl
theorem obj26 : objF 26 = false := rfl
theorem obj27 : objF 27 = false := rfl
theorem obj35 : objF 35 = false := rfl
theorem obj36 : objF 36 = false := rfl
theorem obj37 : objF 37 = false := rfl
theorem obj38 : objF 38 = true := rfl
theorem obj39 : objF 39 = false := rfl
theorem obj40 : objF 40 = false := rfl
theorem obj41 : objF 41 = false := rfl
theorem obj44 : objF 44 = false := rfl
theorem obj45 : objF 45 = false := rfl
theorem obj46 : objF 46 = false := rfl
theorem obj51 : objF 51 = false := rfl
theorem obj52 : objF 52 = false := rfl
theorem mixed : Tryd.prog.follows .mixedOrders = true := by kernel_rfl
end Go.Proofs.YtfndkemgjhajnaaDoor

/-
  An abstract machine for Go code over plain data: a state and the memory that it stands for. Conditions: none.
-/
import Derived.Shelf.LaysM
import Derived.Shelf.LaysC
import Derived.Shelf.Strconv.Itoa3
import Derived.Shelf.Strconv.AtoiAll
import Derived.Shelf.Strings.Cut
import Derived.Shelf.Strings.Search3
import Derived.Shelf.Strings.Replace
import Derived.Shelf.Strings.OnBuilder
import Derived.Shelf.Small.Wraps
import Derived.Test.YtcmgabicladmlaaDoorProg
import Derived.WalkKit
import Derived.Below
import Derived.Still
import Derived.Maps.AppendAt
namespace Go.Proofs
open Go.Shelf
def Tryd.lays156_ren : Go.Shelf.Ren := ⟨fun | 156 => 23 | 165 => 37 | 166 => 38 | 169 => 39 | 240 => 49 | 241 => 50 | 276 => 61 | 277 => 62 | n => n, fun | 31 => 26 | 9 => 9 | 3 => 3 | 4 => 4 | 0 => 0 | 20 => 20 | 72 => 69 | 76 => 73 | 70 => 67 | 37 => 43 | 75 => 72 | 127 => 80 | 164 => 87 | 5 => 5 | 80 => 75 | n => n, fun | n => n⟩
theorem Tryd.lays156 : Go.Proofs.Lays.n156 Tryd.prog Tryd.lays156_ren := {
  mixed := by kernel_rfl
  f156 := Tryd.func23.trans (congrArg some (by kernel_rfl))
  f165 := Tryd.func37.trans (congrArg some (by kernel_rfl))
  f166 := Tryd.func38.trans (congrArg some (by kernel_rfl))
  f169 := Tryd.func39.trans (congrArg some (by kernel_rfl))
  f240 := Tryd.func49.trans (congrArg some (by kernel_rfl))
  f241 := Tryd.func50.trans (congrArg some (by kernel_rfl))
  f276 := Tryd.func61.trans (congrArg some (by kernel_rfl))
  f277 := Tryd.func62.trans (congrArg some (by kernel_rfl))
  t0 := Tryd.underlying0
  a0 := Tryd.isAgg0
  z0 := Tryd.sizeOf0
  v0 := Tryd.zeroValue0
  t3 := Tryd.underlying3
  a3 := Tryd.isAgg3
  z3 := Tryd.sizeOf3
  v3 := Tryd.zeroValue3
  t4 := Tryd.underlying4
  a4 := Tryd.isAgg4
  z4 := Tryd.sizeOf4
  v4 := Tryd.zeroValue4
  t9 := Tryd.underlying9
  a9 := Tryd.isAgg9
  z9 := Tryd.sizeOf9
  v9 := Tryd.zeroValue9
  t20 := Tryd.underlying20
  a20 := Tryd.isAgg20
  z20 := Tryd.sizeOf20
  v20 := Tryd.zeroValue20
  t31 := Tryd.underlying26
  a31 := Tryd.isAgg26
  z31 := Tryd.sizeOf26
  v31 := Tryd.zeroValue26
  t37 := Tryd.underlying43
  a37 := Tryd.isAgg43
  z37 := Tryd.sizeOf43
  v37 := Tryd.zeroValue43
  t70 := Tryd.underlying67
  a70 := Tryd.isAgg67
  z70 := Tryd.sizeOf67
  v70 := Tryd.zeroValue67
  t72 := Tryd.underlying69
  a72 := Tryd.isAgg69
  z72 := Tryd.sizeOf69
  v72 := Tryd.zeroValue69
  t75 := Tryd.underlying72
  a75 := Tryd.isAgg72
  z75 := Tryd.sizeOf72
  v75 := Tryd.zeroValue72
  t76 := Tryd.underlying73
  a76 := Tryd.isAgg73
  z76 := Tryd.sizeOf73
  v76 := Tryd.zeroValue73
  t127 := Tryd.underlying80
  a127 := Tryd.isAgg80
  z127 := Tryd.sizeOf80
  v127 := Tryd.zeroValue80
  t164 := Tryd.underlying87
  a164 := Tryd.isAgg87
  z164 := Tryd.sizeOf87
  v164 := Tryd.zeroValue87 }
theorem Tryd.Builder_Extra_156 : Builder.Extra Tryd.prog Tryd.lays156_ren := {
  sizeBuilder := by kernel_rfl
  liesBuilder := by kernel_rfl
  t5 := Tryd.underlying5
  a5 := Tryd.isAgg5
  z5 := Tryd.sizeOf5
  v5 := Tryd.zeroValue5
  infoByte := by kernel_rfl
  cellsByte := by kernel_rfl
  sizeByte := by kernel_rfl
  neB5 := by decide }
open Go.RowKit in
/-- No element: the empty string; the world is as it was. (Whatever the slice's address and capacity: a nil slice too.) (LAID: no walk: one application.) -/
theorem Tryd.strings_Join_none (a : Option Addr) (c : Nat) (sep : ByteArray) (w : World) :
    Calls Tryd.prog 23 #[.slice a 0 c, .string sep] w fun e w' => e = .returned (.string ⟨#[]⟩) ∧ w' = w := Any.strings_Join_none Tryd.lays156 Tryd.Builder_Extra_156 a c sep w
open Go.RowKit in
/-- strings.Join: "Join concatenates the elements of its first argument to create a single string. The separator string sep is placed between elements in the resulting string.": HOWEVER MANY ELEMENTS. Below the heap's end the world is as it was. (LAID: no walk: one application.) -/
theorem Tryd.strings_Join (bk o c : Nat) (xs : List ByteArray) (sep : ByteArray) (w : World) (hcells : ∀ (j : Nat) x, xs[j]? = some x → w.cell? ⟨bk, o + j, none⟩ = some (.string x)) (hbk : bk < w.heap.size) (hN : xs.length ≤ 140737488355328) (hcap : xs.length ≤ c) (hlen : (Lib.join (xs.map (·.data.toList)) sep.data.toList).length ≤ 140737488355328) :
    Calls Tryd.prog 23 #[.slice (some ⟨bk, o, none⟩) xs.length c, .string sep] w fun e w' => e = .returned (.string ⟨(Lib.join (xs.map (·.data.toList)) sep.data.toList).toArray⟩) ∧ Below w.heap.size w w' := Any.strings_Join Tryd.lays156 Tryd.Builder_Extra_156 bk o c xs sep w hcells hbk hN hcap hlen
def Tryd.lays103_ren : Go.Shelf.Ren := ⟨fun | 103 => 30 | 210 => 44 | 206 => 57 | n => n, fun | 9 => 9 | 4 => 4 | 24 => 61 | 3 => 3 | n => n, fun | n => n⟩
theorem Tryd.lays103 : Go.Proofs.Lays.n103 Tryd.prog Tryd.lays103_ren := {
  mixed := by kernel_rfl
  f103 := Tryd.func30.trans (congrArg some (by kernel_rfl))
  f206 := Tryd.func57.trans (congrArg some (by kernel_rfl))
  f210 := Tryd.func44.trans (congrArg some (by kernel_rfl))
  t3 := Tryd.underlying3
  a3 := Tryd.isAgg3
  z3 := Tryd.sizeOf3
  v3 := Tryd.zeroValue3
  t4 := Tryd.underlying4
  a4 := Tryd.isAgg4
  z4 := Tryd.sizeOf4
  v4 := Tryd.zeroValue4
  t9 := Tryd.underlying9
  a9 := Tryd.isAgg9
  z9 := Tryd.sizeOf9
  v9 := Tryd.zeroValue9
  t24 := Tryd.underlying61
  a24 := Tryd.isAgg61
  z24 := Tryd.sizeOf61
  v24 := Tryd.zeroValue61 }
open Go.RowKit in
/-- strings.CutPrefix: "CutPrefix returns s without the provided leading prefix string and reports whether it found the prefix. If s doesn't start with prefix, CutPrefix returns s, false. If prefix is the empty string, CutPrefix returns s, true.": IT RETURNS '(Lib.trimPrefix s p, Lib.hasPrefix s p)'; the world is as it was. (LAID: no walk: one application.) -/
theorem Tryd.strings_CutPrefix (s p : ByteArray) (w : World) :
    Calls Tryd.prog 30 #[.string s, .string p] w fun e w' => e = .returned (.tuple #[.string ⟨(Lib.trimPrefix s.data.toList p.data.toList).toArray⟩, .bool (Lib.hasPrefix s.data.toList p.data.toList)]) ∧ w' = w := Any.strings_CutPrefix Tryd.lays103 s p w
def Tryd.laysM171_ren : Go.Shelf.Ren := ⟨fun | 171 => 36 | 243 => 48 | 246 => 60 | 283 => 72 | 284 => 73 | 285 => 74 | 286 => 75 | 129 => 83 | 317 => 82 | 318 => 84 | 319 => 85 | 320 => 86 | 337 => 89 | 338 => 90 | n => n, fun | 3 => 3 | 9 => 9 | 2 => 2 | 4 => 4 | 171 => 101 | 0 => 0 | 53 => 102 | 37 => 43 | 5 => 5 | 173 => 105 | 212 => 115 | 51 => 92 | 20 => 20 | 213 => 116 | 46 => 84 | 232 => 127 | 233 => 128 | n => n, fun | 17 => 3 | 18 => 6 | 19 => 7 | n => n⟩
theorem Tryd.laysM171 : Go.Proofs.LaysM.n171 Tryd.prog Tryd.laysM171_ren := {
  mixed := by kernel_rfl
  f129 := Tryd.func83.trans (congrArg some (by kernel_rfl))
  f171 := Tryd.func36.trans (congrArg some (by kernel_rfl))
  f243 := Tryd.func48.trans (congrArg some (by kernel_rfl))
  f246 := Tryd.func60.trans (congrArg some (by kernel_rfl))
  f283 := Tryd.func72.trans (congrArg some (by kernel_rfl))
  f284 := Tryd.func73.trans (congrArg some (by kernel_rfl))
  f285 := Tryd.func74.trans (congrArg some (by kernel_rfl))
  f286 := Tryd.func75.trans (congrArg some (by kernel_rfl))
  f317 := Tryd.func82.trans (congrArg some (by kernel_rfl))
  f318 := Tryd.func84.trans (congrArg some (by kernel_rfl))
  f319 := Tryd.func85.trans (congrArg some (by kernel_rfl))
  f320 := Tryd.func86.trans (congrArg some (by kernel_rfl))
  f337 := Tryd.func89.trans (congrArg some (by kernel_rfl))
  f338 := Tryd.func90.trans (congrArg some (by kernel_rfl))
  t0 := Tryd.underlying0
  a0 := Tryd.isAgg0
  z0 := Tryd.sizeOf0
  v0 := Tryd.zeroValue0
  t2 := Tryd.underlying2
  a2 := Tryd.isAgg2
  z2 := Tryd.sizeOf2
  v2 := Tryd.zeroValue2
  t3 := Tryd.underlying3
  a3 := Tryd.isAgg3
  z3 := Tryd.sizeOf3
  v3 := Tryd.zeroValue3
  t4 := Tryd.underlying4
  a4 := Tryd.isAgg4
  z4 := Tryd.sizeOf4
  v4 := Tryd.zeroValue4
  t5 := Tryd.underlying5
  a5 := Tryd.isAgg5
  z5 := Tryd.sizeOf5
  v5 := Tryd.zeroValue5
  t9 := Tryd.underlying9
  a9 := Tryd.isAgg9
  z9 := Tryd.sizeOf9
  v9 := Tryd.zeroValue9
  t20 := Tryd.underlying20
  a20 := Tryd.isAgg20
  z20 := Tryd.sizeOf20
  v20 := Tryd.zeroValue20
  t37 := Tryd.underlying43
  a37 := Tryd.isAgg43
  z37 := Tryd.sizeOf43
  v37 := Tryd.zeroValue43
  t46 := Tryd.underlying84
  a46 := Tryd.isAgg84
  z46 := Tryd.sizeOf84
  v46 := Tryd.zeroValue84
  t51 := Tryd.underlying92
  a51 := Tryd.isAgg92
  z51 := Tryd.sizeOf92
  v51 := Tryd.zeroValue92
  t53 := Tryd.underlying102
  a53 := Tryd.isAgg102
  z53 := Tryd.sizeOf102
  v53 := Tryd.zeroValue102
  t171 := Tryd.underlying101
  a171 := Tryd.isAgg101
  z171 := Tryd.sizeOf101
  v171 := Tryd.zeroValue101
  t173 := Tryd.underlying105
  a173 := Tryd.isAgg105
  z173 := Tryd.sizeOf105
  v173 := Tryd.zeroValue105
  t212 := Tryd.underlying115
  a212 := Tryd.isAgg115
  z212 := Tryd.sizeOf115
  v212 := Tryd.zeroValue115
  t213 := Tryd.underlying116
  a213 := Tryd.isAgg116
  z213 := Tryd.sizeOf116
  t232 := Tryd.underlying127
  a232 := Tryd.isAgg127
  z232 := Tryd.sizeOf127
  v232 := Tryd.zeroValue127
  t233 := Tryd.underlying128
  a233 := Tryd.isAgg128
  z233 := Tryd.sizeOf128
  v233 := Tryd.zeroValue128
  g17 := by kernel_rfl
  g18 := by kernel_rfl
  g19 := by kernel_rfl
  i0 := by kernel_rfl
  i2 := by kernel_rfl
  i3 := by kernel_rfl
  i4 := by kernel_rfl
  i5 := by kernel_rfl
  i9 := by kernel_rfl
  i20 := by kernel_rfl
  i37 := by kernel_rfl
  i46 := by kernel_rfl
  i51 := by kernel_rfl
  i53 := by kernel_rfl
  i171 := by kernel_rfl
  i173 := by kernel_rfl
  i212 := by kernel_rfl
  i232 := by kernel_rfl
  i233 := by kernel_rfl
  m17 := by kernel_rfl
  m18 := by kernel_rfl
  m19 := by kernel_rfl }
open Go.RowKit Go.Sort Go.Lib in
/-- strconv.Itoa: "Itoa is equivalent to FormatInt(int64(i), 10).": i's DECIMAL NUMERAL ('Lib.itoa': a '-' where i is negative, then the digits), FOR EVERY int. The world behind the call: the world before it, new blocks behind the heap (the library's 'var a [24]byte'), draws. (LAID: no walk: one application.) -/
theorem Tryd.strconv_Itoa (n : Int) (h0 : -9223372036854775808 ≤ n) (h1 : n ≤ 9223372036854775807) (w : World) (htab : Lib.TabIs Tryd.prog w "internal/strconv.uint64pow10" .u64 Lib.pow10Tab) :
    Calls Tryd.prog 36 #[.int .i64 n] w fun e w' => e = .returned (.string ⟨(Lib.itoa n).toArray⟩) ∧ ∃ k os, w' = grow (w.drewN k) os := Any.strconv_Itoa Tryd.laysM171 n h0 h1 w htab
def Tryd.laysC172_ren : Go.Shelf.Ren := ⟨fun | 172 => 45 | 244 => 58 | 245 => 59 | 247 => 67 | 279 => 68 | 280 => 69 | 281 => 70 | 282 => 71 | 287 => 79 | 316 => 80 | 171 => 36 | 205 => 81 | 321 => 87 | 322 => 88 | 243 => 48 | 246 => 60 | 283 => 72 | 284 => 73 | 285 => 74 | 286 => 75 | 129 => 83 | 317 => 82 | 318 => 84 | 319 => 85 | 320 => 86 | 337 => 89 | 338 => 90 | n => n, fun | 9 => 9 | 3 => 3 | 75 => 72 | 76 => 73 | 4 => 4 | 5 => 5 | 167 => 95 | 37 => 43 | 0 => 0 | 85 => 96 | 2 => 2 | 168 => 98 | 53 => 102 | 175 => 108 | 46 => 84 | 210 => 112 | 127 => 80 | 145 => 125 | 143 => 123 | 21 => 21 | 171 => 101 | 173 => 105 | 212 => 115 | 51 => 92 | 20 => 20 | 213 => 116 | 232 => 127 | 233 => 128 | 80 => 75 | n => n, fun | 15 => 1 | 16 => 2 | 17 => 3 | 18 => 6 | 19 => 7 | n => n⟩
theorem Tryd.laysC172 : Go.Proofs.LaysC.n172 Tryd.prog Tryd.laysC172_ren := {
  mixed := by kernel_rfl
  f129 := Tryd.func83.trans (congrArg some (by kernel_rfl))
  f171 := Tryd.func36.trans (congrArg some (by kernel_rfl))
  f172 := Tryd.func45.trans (congrArg some (by kernel_rfl))
  f205 := Tryd.func81.trans (congrArg some (by kernel_rfl))
  f243 := Tryd.func48.trans (congrArg some (by kernel_rfl))
  f244 := Tryd.func58.trans (congrArg some (by kernel_rfl))
  f245 := Tryd.func59.trans (congrArg some (by kernel_rfl))
  f246 := Tryd.func60.trans (congrArg some (by kernel_rfl))
  f247 := Tryd.func67.trans (congrArg some (by kernel_rfl))
  f279 := Tryd.func68.trans (congrArg some (by kernel_rfl))
  f280 := Tryd.func69.trans (congrArg some (by kernel_rfl))
  f281 := Tryd.func70.trans (congrArg some (by kernel_rfl))
  f282 := Tryd.func71.trans (congrArg some (by kernel_rfl))
  f283 := Tryd.func72.trans (congrArg some (by kernel_rfl))
  f284 := Tryd.func73.trans (congrArg some (by kernel_rfl))
  f285 := Tryd.func74.trans (congrArg some (by kernel_rfl))
  f286 := Tryd.func75.trans (congrArg some (by kernel_rfl))
  f287 := Tryd.func79.trans (congrArg some (by kernel_rfl))
  f316 := Tryd.func80.trans (congrArg some (by kernel_rfl))
  f317 := Tryd.func82.trans (congrArg some (by kernel_rfl))
  f318 := Tryd.func84.trans (congrArg some (by kernel_rfl))
  f319 := Tryd.func85.trans (congrArg some (by kernel_rfl))
  f320 := Tryd.func86.trans (congrArg some (by kernel_rfl))
  f321 := Tryd.func87.trans (congrArg some (by kernel_rfl))
  f322 := Tryd.func88.trans (congrArg some (by kernel_rfl))
  f337 := Tryd.func89.trans (congrArg some (by kernel_rfl))
  f338 := Tryd.func90.trans (congrArg some (by kernel_rfl))
  t0 := Tryd.underlying0
  a0 := Tryd.isAgg0
  z0 := Tryd.sizeOf0
  v0 := Tryd.zeroValue0
  t2 := Tryd.underlying2
  a2 := Tryd.isAgg2
  z2 := Tryd.sizeOf2
  v2 := Tryd.zeroValue2
  t3 := Tryd.underlying3
  a3 := Tryd.isAgg3
  z3 := Tryd.sizeOf3
  v3 := Tryd.zeroValue3
  t4 := Tryd.underlying4
  a4 := Tryd.isAgg4
  z4 := Tryd.sizeOf4
  v4 := Tryd.zeroValue4
  t5 := Tryd.underlying5
  a5 := Tryd.isAgg5
  z5 := Tryd.sizeOf5
  v5 := Tryd.zeroValue5
  t9 := Tryd.underlying9
  a9 := Tryd.isAgg9
  z9 := Tryd.sizeOf9
  v9 := Tryd.zeroValue9
  t20 := Tryd.underlying20
  a20 := Tryd.isAgg20
  z20 := Tryd.sizeOf20
  v20 := Tryd.zeroValue20
  t21 := Tryd.underlying21
  a21 := Tryd.isAgg21
  z21 := Tryd.sizeOf21
  v21 := Tryd.zeroValue21
  t37 := Tryd.underlying43
  a37 := Tryd.isAgg43
  z37 := Tryd.sizeOf43
  v37 := Tryd.zeroValue43
  t46 := Tryd.underlying84
  a46 := Tryd.isAgg84
  z46 := Tryd.sizeOf84
  v46 := Tryd.zeroValue84
  t51 := Tryd.underlying92
  a51 := Tryd.isAgg92
  z51 := Tryd.sizeOf92
  v51 := Tryd.zeroValue92
  t53 := Tryd.underlying102
  a53 := Tryd.isAgg102
  z53 := Tryd.sizeOf102
  v53 := Tryd.zeroValue102
  t75 := Tryd.underlying72
  a75 := Tryd.isAgg72
  z75 := Tryd.sizeOf72
  v75 := Tryd.zeroValue72
  t76 := Tryd.underlying73
  a76 := Tryd.isAgg73
  z76 := Tryd.sizeOf73
  v76 := Tryd.zeroValue73
  t85 := Tryd.underlying96
  a85 := Tryd.isAgg96
  z85 := Tryd.sizeOf96
  v85 := Tryd.zeroValue96
  t127 := Tryd.underlying80
  a127 := Tryd.isAgg80
  z127 := Tryd.sizeOf80
  v127 := Tryd.zeroValue80
  t143 := Tryd.underlying123
  a143 := Tryd.isAgg123
  z143 := Tryd.sizeOf123
  v143 := Tryd.zeroValue123
  t145 := Tryd.underlying125
  a145 := Tryd.isAgg125
  z145 := Tryd.sizeOf125
  v145 := Tryd.zeroValue125
  t167 := Tryd.underlying95
  a167 := Tryd.isAgg95
  z167 := Tryd.sizeOf95
  v167 := Tryd.zeroValue95
  t168 := Tryd.underlying98
  a168 := Tryd.isAgg98
  z168 := Tryd.sizeOf98
  v168 := Tryd.zeroValue98
  t171 := Tryd.underlying101
  a171 := Tryd.isAgg101
  z171 := Tryd.sizeOf101
  v171 := Tryd.zeroValue101
  t173 := Tryd.underlying105
  a173 := Tryd.isAgg105
  z173 := Tryd.sizeOf105
  v173 := Tryd.zeroValue105
  t175 := Tryd.underlying108
  a175 := Tryd.isAgg108
  z175 := Tryd.sizeOf108
  v175 := Tryd.zeroValue108
  t210 := Tryd.underlying112
  a210 := Tryd.isAgg112
  z210 := Tryd.sizeOf112
  v210 := Tryd.zeroValue112
  t212 := Tryd.underlying115
  a212 := Tryd.isAgg115
  z212 := Tryd.sizeOf115
  v212 := Tryd.zeroValue115
  t213 := Tryd.underlying116
  a213 := Tryd.isAgg116
  z213 := Tryd.sizeOf116
  t232 := Tryd.underlying127
  a232 := Tryd.isAgg127
  z232 := Tryd.sizeOf127
  v232 := Tryd.zeroValue127
  t233 := Tryd.underlying128
  a233 := Tryd.isAgg128
  z233 := Tryd.sizeOf128
  v233 := Tryd.zeroValue128
  g15 := by kernel_rfl
  g16 := by kernel_rfl
  g17 := by kernel_rfl
  g18 := by kernel_rfl
  g19 := by kernel_rfl
  t80 := Tryd.underlying75
  a80 := Tryd.isAgg75
  z80 := Tryd.sizeOf75
  v80 := Tryd.zeroValue75
  i0 := by kernel_rfl
  i2 := by kernel_rfl
  i3 := by kernel_rfl
  i4 := by kernel_rfl
  i5 := by kernel_rfl
  i9 := by kernel_rfl
  i20 := by kernel_rfl
  i21 := by kernel_rfl
  i37 := by kernel_rfl
  i46 := by kernel_rfl
  i51 := by kernel_rfl
  i53 := by kernel_rfl
  i75 := by kernel_rfl
  i76 := by kernel_rfl
  i80 := by kernel_rfl
  i85 := by kernel_rfl
  i127 := by kernel_rfl
  i143 := by kernel_rfl
  i145 := by kernel_rfl
  i167 := by kernel_rfl
  i168 := by kernel_rfl
  i171 := by kernel_rfl
  i173 := by kernel_rfl
  i175 := by kernel_rfl
  i210 := by kernel_rfl
  i212 := by kernel_rfl
  i232 := by kernel_rfl
  i233 := by kernel_rfl
  m15 := by kernel_rfl
  m16 := by kernel_rfl
  m17 := by kernel_rfl
  m18 := by kernel_rfl
  m19 := by kernel_rfl
  c0 := by kernel_rfl
  c2 := by kernel_rfl
  c3 := by kernel_rfl
  c4 := by kernel_rfl
  c5 := by kernel_rfl
  c9 := by kernel_rfl
  c20 := by kernel_rfl
  c21 := by kernel_rfl
  c37 := by kernel_rfl
  c46 := by kernel_rfl
  c51 := by kernel_rfl
  c53 := by kernel_rfl
  c75 := by kernel_rfl
  c76 := by kernel_rfl
  c80 := by kernel_rfl
  c85 := by kernel_rfl
  c127 := by kernel_rfl
  c143 := by kernel_rfl
  c145 := by kernel_rfl
  c167 := by kernel_rfl
  c168 := by kernel_rfl
  c171 := by kernel_rfl
  c173 := by kernel_rfl
  c175 := by kernel_rfl
  c210 := by kernel_rfl
  c212 := by kernel_rfl
  c213 := by kernel_rfl
  c232 := by kernel_rfl
  c233 := by kernel_rfl }
open Go.RowKit in
/-- strconv.Atoi, AT EVERY STRING THAT SPELLS AN int ('Lib.atoiAll .. = .ok v'; of whatever length: leading zeros count): v, AND NO ERROR. The world: as it was, or with the one new row that '[]byte(..)' lays. (LAID: no walk: one application.) -/
theorem Tryd.strconv_Atoi_ok (s : ByteArray) (hmax : s.size ≤ 9223372036854775806) (v : Int) (h : Lib.atoiAll s.data.toList = .ok v) (w : World) :
    Calls Tryd.prog 45 #[.string s] w fun e w' => e = .returned (.tuple #[.int .i64 v, .nilIface]) ∧ (w' = w ∨ ∃ t, w' = Lib.bytesWorld w 5 t) := Any.strconv_Atoi_ok Tryd.laysC172 s hmax v h w
open Go.RowKit in
/-- strconv.Atoi, AT EVERY STRING THAT IS NO DECIMAL NUMERAL (as at the empty string): 0, AND AN ERROR THAT IS NOT nil: a *NumError in a new block N: {Func: "Atoi", Num: s's bytes, Err: what the variable ErrSyntax holds}. Of what was there nothing has turned. (LAID: no walk: one application.) -/
theorem Tryd.strconv_Atoi_syntax (s : ByteArray) (hlim : s.size ≤ 281474976710656) (h : Lib.atoiAll s.data.toList = Lib.atoiAll []) (ev : Value) (w : World) (hv : w.cell? ⟨1, 0, none⟩ = some ev) (hev : ev = .nilIface ∨ ∃ te pe, ev = .iface te pe) :
    Calls Tryd.prog 45 #[.string s] w fun e w' => ∃ N, e = .returned (.tuple #[.int .i64 (0), .iface 98 (.pointer (some ⟨N, 0, none⟩))]) ∧ w.heap.size ≤ N ∧ w'.heap[N]? = some (.cells #[.string ⟨#[65, 116, 111, 105]⟩, .string s, ev] 112 (0, 0)) ∧ Below w.heap.size w w' := Any.strconv_Atoi_syntax Tryd.laysC172 s hlim h ev w hv hev
open Go.RowKit in
/-- strconv.Atoi, AT EVERY NUMERAL THAT NO int HOLDS ('.range'): THE GREATEST OR THE LEAST int, BY THE SIGN ('Lib.atoiSat'), AND AN ERROR THAT IS NOT nil: a *NumError in a new block N: {Func: "Atoi", Num: s's bytes, Err: what the variable ErrRange holds}. Of what was there nothing has turned. (LAID: no walk: one application.) -/
theorem Tryd.strconv_Atoi_range (s : ByteArray) (hlim : s.size ≤ 281474976710656) (h : Lib.atoiAll s.data.toList = .range) (ev : Value) (w : World) (hv : w.cell? ⟨2, 0, none⟩ = some ev) (hev : ev = .nilIface ∨ ∃ te pe, ev = .iface te pe) :
    Calls Tryd.prog 45 #[.string s] w fun e w' => ∃ N, e = .returned (.tuple #[.int .i64 (Lib.atoiSat s.data.toList), .iface 98 (.pointer (some ⟨N, 0, none⟩))]) ∧ w.heap.size ≤ N ∧ w'.heap[N]? = some (.cells #[.string ⟨#[65, 116, 111, 105]⟩, .string s, ev] 112 (0, 0)) ∧ Below w.heap.size w w' := Any.strconv_Atoi_range Tryd.laysC172 s hlim h ev w hv hev
def Tryd.lays144_ren : Go.Shelf.Ren := ⟨fun | 144 => 27 | 143 => 42 | 219 => 43 | 217 => 53 | 225 => 54 | 224 => 55 | 267 => 56 | 266 => 65 | 314 => 66 | n => n, fun | 9 => 9 | 4 => 4 | 3 => 3 | 5 => 5 | 46 => 84 | 146 => 93 | 51 => 92 | n => n, fun | 1 => 0 | n => n⟩
theorem Tryd.lays144 : Go.Proofs.Lays.n144 Tryd.prog Tryd.lays144_ren := {
  mixed := by kernel_rfl
  f143 := Tryd.func42.trans (congrArg some (by kernel_rfl))
  f144 := Tryd.func27.trans (congrArg some (by kernel_rfl))
  f217 := Tryd.func53.trans (congrArg some (by kernel_rfl))
  f219 := Tryd.func43.trans (congrArg some (by kernel_rfl))
  f224 := Tryd.func55.trans (congrArg some (by kernel_rfl))
  f225 := Tryd.func54.trans (congrArg some (by kernel_rfl))
  f266 := Tryd.func65.trans (congrArg some (by kernel_rfl))
  f267 := Tryd.func56.trans (congrArg some (by kernel_rfl))
  f314 := Tryd.func66.trans (congrArg some (by kernel_rfl))
  t3 := Tryd.underlying3
  a3 := Tryd.isAgg3
  z3 := Tryd.sizeOf3
  v3 := Tryd.zeroValue3
  t4 := Tryd.underlying4
  a4 := Tryd.isAgg4
  z4 := Tryd.sizeOf4
  v4 := Tryd.zeroValue4
  t5 := Tryd.underlying5
  a5 := Tryd.isAgg5
  z5 := Tryd.sizeOf5
  v5 := Tryd.zeroValue5
  t9 := Tryd.underlying9
  a9 := Tryd.isAgg9
  z9 := Tryd.sizeOf9
  v9 := Tryd.zeroValue9
  t46 := Tryd.underlying84
  a46 := Tryd.isAgg84
  z46 := Tryd.sizeOf84
  v46 := Tryd.zeroValue84
  t51 := Tryd.underlying92
  a51 := Tryd.isAgg92
  z51 := Tryd.sizeOf92
  v51 := Tryd.zeroValue92
  t146 := Tryd.underlying93
  a146 := Tryd.isAgg93
  z146 := Tryd.sizeOf93
  v146 := Tryd.zeroValue93
  g1 := by kernel_rfl }
open Go.RowKit Go.Lib in
/-- strings.Contains: "Contains reports whether substr is within s.": IT RETURNS 'Lib.contains s substr'; the world is as it was. (LAID: no walk: one application.) -/
theorem Tryd.strings_Contains (s sub : ByteArray) (m : Int) (w : World) (hs : s.size < 4294967281) (hm : w.cell? ⟨0, 0, none⟩ = some (.int .i64 m)) :
    Calls Tryd.prog 27 #[.string s, .string sub] w fun e w' => e = .returned (.bool (Lib.contains s.data.toList sub.data.toList)) ∧ w' = w := Any.strings_Contains Tryd.lays144 s sub m w hs hm
def Tryd.lays145_ren : Go.Shelf.Ren := ⟨fun | 145 => 18 | 220 => 29 | 219 => 43 | 217 => 53 | 225 => 54 | 224 => 55 | 267 => 56 | 266 => 65 | 314 => 66 | n => n, fun | 9 => 9 | 4 => 4 | 59 => 44 | 3 => 3 | 5 => 5 | 46 => 84 | 146 => 93 | 51 => 92 | n => n, fun | 1 => 0 | n => n⟩
theorem Tryd.lays145 : Go.Proofs.Lays.n145 Tryd.prog Tryd.lays145_ren := {
  mixed := by kernel_rfl
  f145 := Tryd.func18.trans (congrArg some (by kernel_rfl))
  f217 := Tryd.func53.trans (congrArg some (by kernel_rfl))
  f219 := Tryd.func43.trans (congrArg some (by kernel_rfl))
  f220 := Tryd.func29.trans (congrArg some (by kernel_rfl))
  f224 := Tryd.func55.trans (congrArg some (by kernel_rfl))
  f225 := Tryd.func54.trans (congrArg some (by kernel_rfl))
  f266 := Tryd.func65.trans (congrArg some (by kernel_rfl))
  f267 := Tryd.func56.trans (congrArg some (by kernel_rfl))
  f314 := Tryd.func66.trans (congrArg some (by kernel_rfl))
  t3 := Tryd.underlying3
  a3 := Tryd.isAgg3
  z3 := Tryd.sizeOf3
  v3 := Tryd.zeroValue3
  t4 := Tryd.underlying4
  a4 := Tryd.isAgg4
  z4 := Tryd.sizeOf4
  v4 := Tryd.zeroValue4
  t5 := Tryd.underlying5
  a5 := Tryd.isAgg5
  z5 := Tryd.sizeOf5
  v5 := Tryd.zeroValue5
  t9 := Tryd.underlying9
  a9 := Tryd.isAgg9
  z9 := Tryd.sizeOf9
  v9 := Tryd.zeroValue9
  t46 := Tryd.underlying84
  a46 := Tryd.isAgg84
  z46 := Tryd.sizeOf84
  v46 := Tryd.zeroValue84
  t51 := Tryd.underlying92
  a51 := Tryd.isAgg92
  z51 := Tryd.sizeOf92
  v51 := Tryd.zeroValue92
  t59 := Tryd.underlying44
  a59 := Tryd.isAgg44
  z59 := Tryd.sizeOf44
  v59 := Tryd.zeroValue44
  t146 := Tryd.underlying93
  a146 := Tryd.isAgg93
  z146 := Tryd.sizeOf93
  v146 := Tryd.zeroValue93
  g1 := by kernel_rfl }
open Go.RowKit Go.Lib in
/-- strings.Cut: "Cut slices s around the first instance of sep, returning the text before and after sep. The found result reports whether sep appears in s. If sep does not appear in s, cut returns s, "", false.": IT RETURNS 'Lib.cut s sep'; the world is as it was but for the count of draws. (LAID: no walk: one application.) -/
theorem Tryd.strings_Cut (s sep : ByteArray) (m : Int) (w : World) (hs : s.size < 4294967281) (hm : w.cell? ⟨0, 0, none⟩ = some (.int .i64 m)) :
    Calls Tryd.prog 18 #[.string s, .string sep] w fun e w' => e = .returned (.tuple #[.string ⟨(Lib.cut s.data.toList sep.data.toList).1.toArray⟩, .string ⟨(Lib.cut s.data.toList sep.data.toList).2.1.toArray⟩, .bool (Lib.cut s.data.toList sep.data.toList).2.2]) ∧ ∃ n, w' = w.drewN n := Any.strings_Cut Tryd.lays145 s sep m w hs hm
def Tryd.lays155_ren : Go.Shelf.Ren := ⟨fun | 155 => 41 | 154 => 52 | 138 => 63 | 165 => 37 | 143 => 42 | 166 => 38 | 197 => 64 | 169 => 39 | 195 => 76 | 218 => 77 | 240 => 49 | 241 => 50 | 219 => 43 | 260 => 78 | 276 => 61 | 277 => 62 | 217 => 53 | 225 => 54 | 224 => 55 | 267 => 56 | 266 => 65 | 314 => 66 | n => n, fun | 9 => 9 | 3 => 3 | 4 => 4 | 72 => 69 | 0 => 0 | 76 => 73 | 105 => 90 | 21 => 21 | 5 => 5 | 70 => 67 | 20 => 20 | 37 => 43 | 75 => 72 | 127 => 80 | 164 => 87 | 46 => 84 | 119 => 118 | 139 => 121 | 138 => 120 | 146 => 93 | 51 => 92 | 80 => 75 | n => n, fun | 1 => 0 | 3 => 4 | 4 => 5 | n => n⟩
theorem Tryd.lays155 : Go.Proofs.Lays.n155 Tryd.prog Tryd.lays155_ren := {
  mixed := by kernel_rfl
  f138 := Tryd.func63.trans (congrArg some (by kernel_rfl))
  f143 := Tryd.func42.trans (congrArg some (by kernel_rfl))
  f154 := Tryd.func52.trans (congrArg some (by kernel_rfl))
  f155 := Tryd.func41.trans (congrArg some (by kernel_rfl))
  f165 := Tryd.func37.trans (congrArg some (by kernel_rfl))
  f166 := Tryd.func38.trans (congrArg some (by kernel_rfl))
  f169 := Tryd.func39.trans (congrArg some (by kernel_rfl))
  f195 := Tryd.func76.trans (congrArg some (by kernel_rfl))
  f197 := Tryd.func64.trans (congrArg some (by kernel_rfl))
  f217 := Tryd.func53.trans (congrArg some (by kernel_rfl))
  f218 := Tryd.func77.trans (congrArg some (by kernel_rfl))
  f219 := Tryd.func43.trans (congrArg some (by kernel_rfl))
  f224 := Tryd.func55.trans (congrArg some (by kernel_rfl))
  f225 := Tryd.func54.trans (congrArg some (by kernel_rfl))
  f240 := Tryd.func49.trans (congrArg some (by kernel_rfl))
  f241 := Tryd.func50.trans (congrArg some (by kernel_rfl))
  f260 := Tryd.func78.trans (congrArg some (by kernel_rfl))
  f266 := Tryd.func65.trans (congrArg some (by kernel_rfl))
  f267 := Tryd.func56.trans (congrArg some (by kernel_rfl))
  f276 := Tryd.func61.trans (congrArg some (by kernel_rfl))
  f277 := Tryd.func62.trans (congrArg some (by kernel_rfl))
  f314 := Tryd.func66.trans (congrArg some (by kernel_rfl))
  t0 := Tryd.underlying0
  a0 := Tryd.isAgg0
  z0 := Tryd.sizeOf0
  v0 := Tryd.zeroValue0
  t3 := Tryd.underlying3
  a3 := Tryd.isAgg3
  z3 := Tryd.sizeOf3
  v3 := Tryd.zeroValue3
  t4 := Tryd.underlying4
  a4 := Tryd.isAgg4
  z4 := Tryd.sizeOf4
  v4 := Tryd.zeroValue4
  t5 := Tryd.underlying5
  a5 := Tryd.isAgg5
  z5 := Tryd.sizeOf5
  v5 := Tryd.zeroValue5
  t9 := Tryd.underlying9
  a9 := Tryd.isAgg9
  z9 := Tryd.sizeOf9
  v9 := Tryd.zeroValue9
  t20 := Tryd.underlying20
  a20 := Tryd.isAgg20
  z20 := Tryd.sizeOf20
  v20 := Tryd.zeroValue20
  t21 := Tryd.underlying21
  a21 := Tryd.isAgg21
  z21 := Tryd.sizeOf21
  v21 := Tryd.zeroValue21
  t37 := Tryd.underlying43
  a37 := Tryd.isAgg43
  z37 := Tryd.sizeOf43
  v37 := Tryd.zeroValue43
  t46 := Tryd.underlying84
  a46 := Tryd.isAgg84
  z46 := Tryd.sizeOf84
  v46 := Tryd.zeroValue84
  t51 := Tryd.underlying92
  a51 := Tryd.isAgg92
  z51 := Tryd.sizeOf92
  v51 := Tryd.zeroValue92
  t70 := Tryd.underlying67
  a70 := Tryd.isAgg67
  z70 := Tryd.sizeOf67
  v70 := Tryd.zeroValue67
  t72 := Tryd.underlying69
  a72 := Tryd.isAgg69
  z72 := Tryd.sizeOf69
  v72 := Tryd.zeroValue69
  t75 := Tryd.underlying72
  a75 := Tryd.isAgg72
  z75 := Tryd.sizeOf72
  v75 := Tryd.zeroValue72
  t76 := Tryd.underlying73
  a76 := Tryd.isAgg73
  z76 := Tryd.sizeOf73
  v76 := Tryd.zeroValue73
  t105 := Tryd.underlying90
  a105 := Tryd.isAgg90
  z105 := Tryd.sizeOf90
  v105 := Tryd.zeroValue90
  t119 := Tryd.underlying118
  a119 := Tryd.isAgg118
  z119 := Tryd.sizeOf118
  t127 := Tryd.underlying80
  a127 := Tryd.isAgg80
  z127 := Tryd.sizeOf80
  v127 := Tryd.zeroValue80
  t138 := Tryd.underlying120
  a138 := Tryd.isAgg120
  z138 := Tryd.sizeOf120
  v138 := Tryd.zeroValue120
  t139 := Tryd.underlying121
  a139 := Tryd.isAgg121
  z139 := Tryd.sizeOf121
  v139 := Tryd.zeroValue121
  t146 := Tryd.underlying93
  a146 := Tryd.isAgg93
  z146 := Tryd.sizeOf93
  v146 := Tryd.zeroValue93
  t164 := Tryd.underlying87
  a164 := Tryd.isAgg87
  z164 := Tryd.sizeOf87
  v164 := Tryd.zeroValue87
  g1 := by kernel_rfl
  g3 := by kernel_rfl
  g4 := by kernel_rfl }
theorem Tryd.Builder_Extra_155 : Builder.Extra Tryd.prog Tryd.lays155_ren := {
  sizeBuilder := by kernel_rfl
  liesBuilder := by kernel_rfl
  t5 := Tryd.underlying5
  a5 := Tryd.isAgg5
  z5 := Tryd.sizeOf5
  v5 := Tryd.zeroValue5
  infoByte := by kernel_rfl
  cellsByte := by kernel_rfl
  sizeByte := by kernel_rfl
  neB5 := by decide }
open Go.RowKit Go.Lib in
/-- strings.ReplaceAll: "ReplaceAll returns a copy of the string s with all non-overlapping instances of old replaced by new.": AT AN old THAT IS NOT EMPTY: 'Lib.replaceAll s old new'. (LAID: no walk: one application.) -/
theorem Tryd.strings_ReplaceAll (s old new : ByteArray) (m : Int) (w : World) (hs : s.size < 4294967281) (hm : w.cell? ⟨0, 0, none⟩ = some (.int .i64 m)) (h1 : 1 ≤ old.size) (hlen : s.size + Lib.countB s old * new.size ≤ 140737488355328) :
    Calls Tryd.prog 41 #[.string s, .string old, .string new] w fun e w' =>
      e = .returned (.string ⟨(Lib.replaceAll s.data.toList old.data.toList new.data.toList).toArray⟩) ∧ Below w.heap.size w w' := Any.strings_ReplaceAll Tryd.lays155 Tryd.Builder_Extra_155 s old new m w hs hm h1 hlen
end Go.Proofs
namespace Go.Pe

/-- Plain data: what a value says, without memory. -/
inductive C where
  | any
  | undef
  | lit (v : Value)
  | sl (cs : List C) (n : Nat)
  | ref (cs : List C)
  | fn (f : Nat) (caps : List C)
  | agg (cs : List C)
  | tup (cs : List C)
  | ifc (t : Nat) (c : C)

abbrev ci (n : Int) : C := .lit (.int .i64 n)
abbrev cb (b : Bool) : C := .lit (.bool b)
abbrev cstr (s : ByteArray) : C := .lit (.string s)

def C.cells : C → List C
  | .agg cs => cs
  | c => [c]

/-- A name of a right to append: made by an operation, or held by an object's cell. -/
inductive Tk where
  | nm (clk ix i : Nat)
  | cell (r off : Nat)
  deriving DecidableEq

/-- What a slot holds: data, a slice with the right to append, a pointer to an object of the call's own .. -/
inductive X where
  | of (a : C)
  | nil
  | own (t : Tk) (e z : Nat) (cs : List C) (n : Nat)
  | ptr (r off : Nat)
  | mp (r : Nat)
  | clo (f : Nat) (caps : List X)
  | agg (xs : List X)
  | tup (xs : List X)

abbrev xint (n : Int) : X := .of (ci n)
abbrev xbool (b : Bool) : X := .of (cb b)
abbrev xstr (s : ByteArray) : X := .of (cstr s)

inductive Ob where
  | var (ty : Nat) (xs : List X)
  | map (es : List (Value × C))

mutual
def X.rd : X → Option C
  | .of c => some c
  | .nil => some (.sl [] 0)
  | .own _ _ _ cs n => some (.sl cs n)
  | .agg xs => (X.rds xs).map .agg
  | _ => none
def X.rds : List X → Option (List C)
  | [] => some []
  | x :: r => match x.rd, X.rds r with
    | some c, some cs => some (c :: cs)
    | _, _ => none
end

mutual
def X.drop (t : Tk) : X → X
  | .own t' e z cs n => if t' = t then .of (.sl cs n) else .own t' e z cs n
  | .clo f caps => .clo f (X.drops t caps)
  | .agg xs => .agg (X.drops t xs)
  | .tup xs => .tup (X.drops t xs)
  | x => x
def X.drops (t : Tk) : List X → List X
  | [] => []
  | x :: r => x.drop t :: X.drops t r
end

def Ob.drop (t : Tk) : Ob → Ob
  | .var ty xs => .var ty (X.drops t xs)
  | o => o

mutual
def X.tr (σ : Nat → Option Nat) (ρ : Tk → Option Tk) : X → X
  | .of c => .of c
  | .nil => .nil
  | .own t e z cs n => match ρ t with
    | some t' => .own t' e z cs n
    | none => .of (.sl cs n)
  | .ptr r off => match σ r with
    | some r' => .ptr r' off
    | none => .of .any
  | .mp r => match σ r with
    | some r' => .mp r'
    | none => .of .any
  | .clo f caps => .clo f (X.trs σ ρ caps)
  | .agg xs => .agg (X.trs σ ρ xs)
  | .tup xs => .tup (X.trs σ ρ xs)
def X.trs (σ : Nat → Option Nat) (ρ : Tk → Option Tk) : List X → List X
  | [] => []
  | x :: r => x.tr σ ρ :: X.trs σ ρ r
end
def Ob.tr (σ : Nat → Option Nat) (ρ : Tk → Option Tk) : Ob → Ob
  | .var ty xs => .var ty (X.trs σ ρ xs)
  | .map es => .map es

mutual
/-- The objects that a value names. -/
def X.refs : X → List Nat
  | .ptr r _ => [r]
  | .mp r => [r]
  | .clo _ caps => X.refsL caps
  | .agg xs => X.refsL xs
  | .tup xs => X.refsL xs
  | _ => []
def X.refsL : List X → List Nat
  | [] => []
  | x :: r => x.refs ++ X.refsL r
end
mutual
/-- The rights that a value holds. -/
def X.toks : X → List Tk
  | .own t _ _ _ _ => [t]
  | .clo _ caps => X.toksL caps
  | .agg xs => X.toksL xs
  | .tup xs => X.toksL xs
  | _ => []
def X.toksL : List X → List Tk
  | [] => []
  | x :: r => x.toks ++ X.toksL r
end
def Ob.refs : Ob → List Nat
  | .var _ xs => X.refsL xs
  | .map _ => []

def pos {α : Type} [DecidableEq α] : List α → α → Option Nat
  | [], _ => none
  | a :: l, b => if a = b then some 0 else (pos l b).map (· + 1)
/-- Each once, behind some that are there. -/
def nub {α : Type} [DecidableEq α] : List α → List α → List α
  | [], seen => seen
  | a :: l, seen => if a ∈ seen then nub l seen else nub l (seen ++ [a])

/-- The objects that can be come to. -/
def reach (objs : List Ob) : Nat → List Nat → List Nat → List Nat
  | 0, _, seen => seen
  | _ + 1, [], seen => seen
  | n + 1, r :: todo, seen => if r ∈ seen then reach objs n todo seen else reach objs n (((objs[r]?).map Ob.refs).getD [] ++ todo) (seen ++ [r])

/-- The names within a call, of what it is given: these objects, these rights. -/
def rhoIn (refs : List Nat) (ts : List Tk) (t : Tk) : Option Tk := match pos ts t with
  | some i => some (.nm 0 0 i)
  | none => match t with
    | .cell r off => (pos refs r).map fun r' => .cell r' off
    | .nm .. => none
/-- The rights that the caller keeps. -/
def keepTk (refs : List Nat) (ts : List Tk) (t : Tk) : Option Tk := if t ∈ ts then none else match t with
  | .cell r _ => if r ∈ refs then none else some t
  | .nm .. => some t
/-- The names behind a call. -/
def sigBack (refs : List Nat) (L i : Nat) : Nat := match refs[i]? with
  | some r => r
  | none => L + (i - refs.length)
def rhoBack (refs : List Nat) (L clk ix : Nat) : Tk → Option Tk
  | .nm 0 0 i => some (.nm clk ix i)
  | .nm .. => none
  | .cell r off => some (.cell (sigBack refs L r) off)
def dropTs (ts : List Tk) (objs : List Ob) : List Ob := match ts with
  | [] => objs
  | ts => objs.map (Ob.tr some fun t => if t ∈ ts then none else some t)
/-- Objects, in this order, under other names. -/
def pickObs (σ : Nat → Option Nat) (ρ : Tk → Option Tk) (objs : List Ob) : List Nat → Option (List Ob)
  | [] => some []
  | r :: l => match objs[r]?, pickObs σ ρ objs l with
    | some ob, some q => some (ob.tr σ ρ :: q)
    | _, _ => none
def setObs (σ : Nat → Option Nat) (ρ : Tk → Option Tk) : List Ob → List Nat → List Ob → List Ob
  | objs, r :: l, ob :: q => setObs σ ρ (objs.set r (ob.tr σ ρ)) l q
  | objs, _, _ => objs

def dropOpt (t : Option Tk) (x : X) : X := match t with | none => x | some t => x.drop t

/-- The call's own slots; the objects; a clock. -/
structure S where
  fr : Nat → X
  objs : List Ob
  clk : Nat

def upd (f : Nat → X) (d : Nat) (x : X) : Nat → X := fun j => if j = d then x else f j

def S.put (s : S) (d : Option Nat) (x : X) : S := match d with
  | none => s
  | some d => { s with fr := upd s.fr d x }

def S.drop (s : S) (t : Option Tk) : S := match t with
  | none => s
  | some t => { s with fr := fun j => (s.fr j).drop t, objs := s.objs.map (·.drop t) }

/-- A value that stands in the code. -/
def ofVal : Value → X
  | .slice none 0 0 => .nil
  | .int k n => .of (.lit (.int k n))
  | .bool b => .of (.lit (.bool b))
  | .string s => .of (.lit (.string s))
  | .pointer none => .of (.lit (.pointer none))
  | .map none => .of (.lit (.map none))
  | .nilFunc => .of (.lit .nilFunc)
  | .nilIface => .of (.lit .nilIface)
  | _ => .of .any

def S.ev (s : S) : Operand → X
  | .tmp t => s.fr t
  | .const v => ofVal v
  | .func f => .of (.fn f [])
  | .global _ => .of .any

/-- What is known of a type. -/
structure TD where
  und : TypeDesc
  size : Nat
  bytes : Nat
  agg : Bool
  zero : List Value
  fields : List (Nat × Nat)

abbrev TT := Nat → Option TD

def isAggD : TypeDesc → Bool
  | .struct _ => true
  | .array _ _ => true
  | _ => false

def isAggV : Value → Bool
  | .agg _ => true
  | _ => false

def fieldsOf (P : Program) : TypeDesc → Option (List (Nat × Nat))
  | .struct fs => fs.toList.mapM fun f => (P.info? f.type).map fun i => (f.offset, i.size)
  | _ => some []

/-- The program's own types. -/
def TT.of (P : Program) : TT := fun t => match P.underlying t, P.info? t with
  | some u, some i => match i.zero, fieldsOf P u with
    | some z, some fl => if z.cells.toList.all (·.oneCell') && z.cells.size == i.size && isAggV z == isAggD u then some ⟨u, i.size, i.bytes, isAggD u, z.cells.toList, fl⟩ else none
    | _, _ => none
  | _, _ => none

/-- The bound on every length that is made. -/
def LIM : Nat := 4294967296
/-- .. on every string's. -/
def SLIM : Nat := 140737488355328

def binInt (op : BinOp) (k : IntKind) (a b : Int) : Option Value := match op with
  | .add => some (.int k (k.wrap (a + b)))
  | .sub => some (.int k (k.wrap (a - b)))
  | .mul => some (.int k (k.wrap (a * b)))
  | .quo => if b = 0 then none else some (.int k (k.wrap (a.tdiv b)))
  | .rem => if b = 0 then none else some (.int k (a.tmod b))
  | .eql => some (.bool (decide (a = b)))
  | .neq => some (.bool (!decide (a = b)))
  | .lss => some (.bool (decide (a < b)))
  | .leq => some (.bool (decide (a ≤ b)))
  | .gtr => some (.bool (decide (b < a)))
  | .geq => some (.bool (decide (b ≤ a)))
  | .and => some (.int k (k.wrap (BitVec.ofInt k.bits a &&& BitVec.ofInt k.bits b).toNat))
  | .andNot => some (.int k (k.wrap (BitVec.ofInt k.bits a &&& ~~~BitVec.ofInt k.bits b).toNat))
  | _ => none

def binStr (op : BinOp) (a b : ByteArray) : Option Value := match op with
  | .add => if a.size + b.size ≤ SLIM then some (.string (a ++ b)) else none
  | .eql => some (.bool (decide (a = b)))
  | .neq => some (.bool (!decide (a = b)))
  | _ => none

def binBool (op : BinOp) (a b : Bool) : Option Value := match op with
  | .eql => some (.bool (a == b))
  | .neq => some (.bool (!(a == b)))
  | _ => none

def isBoolD : Option TypeDesc → Bool
  | some .bool => true
  | _ => false

def binLit (u : Option TypeDesc) (op : BinOp) : Value → Value → Option Value
  | .int k a, .int k' b => if k = k' then binInt op k a b else none
  | .string a, .string b => binStr op a b
  | .bool a, .bool b => if isBoolD u then binBool op a b else none
  | _, _ => none

def unLit (op : UnOp) : Value → Option Value
  | .int k n => match op with
    | .neg => some (.int k (k.wrap (0 - n)))
    | _ => none
  | .bool b => match op with
    | .not => some (.bool (!b))
    | _ => none
  | _ => none

/-- '==' of two scalars of one kind. -/
def eqLit : Value → Value → Option Bool
  | .int k a, .int k' b => if k = k' then some (decide (a = b)) else none
  | .string a, .string b => some (decide (a = b))
  | .bool a, .bool b => some (a == b)
  | _, _ => none

def litInt : X → Option Int
  | .of (.lit (.int .i64 n)) => some n
  | _ => none

def litBool : X → Option Bool
  | .of (.lit (.bool b)) => some b
  | _ => none

/-- A slice as data. -/
def asSl : X → Option (List C × Nat)
  | .nil => some ([], 0)
  | .own _ _ _ cs n => some (cs, n)
  | .of (.sl cs n) => some (cs, n)
  | _ => none

/-- The cells of a value. -/
def cellsX : X → Option (List X)
  | .agg xs => some xs
  | .of (.agg cs) => some (cs.map .of)
  | .of .any => none
  | .of .undef => none
  | .of (.tup _) => none
  | .tup _ => none
  | x => some [x]

/-- Parts laid into a row of cells. -/
def fillX (place : Nat → Option (Nat × Nat)) (cells : List X) : List (Nat × List X) → Option (List X)
  | [] => some cells
  | (i, xs) :: rest => match place i with
    | none => none
    | some (off, size) =>
      if xs.length = size ∧ off + size ≤ cells.length then fillX place (cells.take off ++ xs ++ cells.drop (off + size)) rest
      else none

def zeroX (d : TD) : List X := d.zero.map ofVal

/-- A piece of a row of cells, as a value of that type. -/
def pieceC (T : TT) (t : Nat) (cs : List C) : Option C := match T t with
  | none => none
  | some d => if d.size ≤ cs.length then (if d.agg then some (.agg (cs.take d.size)) else match cs with
      | c :: _ => some c
      | [] => none) else none
def pieceX (T : TT) (t : Nat) (xs : List X) : Option X := match T t with
  | none => none
  | some d => if d.size ≤ xs.length then (if d.agg then some (.agg (xs.take d.size)) else match xs with
      | x :: _ => some x
      | [] => none) else none

def elemOf (T : TT) (t : Nat) : Option (Nat × TD) := match T t with
  | some { und := .slice e, .. } => (T e).map fun d => (e, d)
  | _ => none

def partsX (f : Operand → X) (ps : List (Nat × Operand)) : Option (List (Nat × List X)) := match ps with
  | [] => some []
  | (i, x) :: r => match cellsX (f x), partsX f r with
    | some l, some q => some ((i, l) :: q)
    | _, _ => none

def rdAll (f : Operand → X) : List Operand → Option (List C)
  | [] => some []
  | x :: r => match (f x).rd, rdAll f r with
    | some c, some cs => some (c :: cs)
    | _, _ => none

/-- What an operation that turns no object yields: the value, and the right to append that it uses up. -/
abbrev Out := Option (X × Option Tk)
def out (x : X) : Out := some (x, none)
def outO (x : Option X) : Out := x.map fun x => (x, none)

def isStrD : Option TypeDesc → Bool
  | some .string => true
  | _ => false

/-- Bytes, as cells. -/
def bytesC (s : ByteArray) : List C := s.data.toList.map fun b => .lit (.int .u8 b.toNat)
def isU8T : Option TD → Bool
  | some { und := .int .u8, size := 1, .. } => true
  | _ => false
/-- What is appended: a slice of the same type; to bytes also a string. -/
def appSrc (T : TT) (st xt e : Nat) (x : X) : Option (List C × Nat) :=
  if st = xt then asSl x else match x with
    | .of (.lit (.string s)) => if isStrD ((T xt).map (·.und)) = true ∧ isU8T (T e) = true then some (bytesC s, s.size) else none
    | _ => none
def appendX (T : TT) (t : Tk) (st xt : Nat) (s x : X) : Out := match elemOf T st with
  | some (e, d) => match appSrc T st xt e x with
    | some (ys, m) =>
      if ys.length = m * d.size ∧ 0 < d.size then match s with
        | .nil => if m ≤ LIM ∧ d.bytes ≤ 32768 then some (.own t e d.size ys m, none) else none
        | .own t' e' z cs n => if e' = e ∧ z = d.size ∧ n + m ≤ LIM ∧ d.bytes ≤ 32768 then some (.own t e d.size (cs ++ ys) (n + m), some t') else none
        | _ => none
      else none
    | none => none
  | none => none

def bndX (d : Int) : Option X → Option Int
  | none => some d
  | some l => litInt l

def sliceX (T : TT) (t : Nat) (x : X) (lo hi : Option X) : Out :=
  match x with
  | .of (.lit (.string s)) =>
    if isStrD ((T t).map (·.und)) then match bndX 0 lo, bndX (s.size : Int) hi with
    | some l, some h => if 0 ≤ l ∧ l ≤ h ∧ h ≤ (s.size : Int) then out (.of (.lit (.string (s.extract l.toNat h.toNat)))) else none
    | _, _ => none
    else none
  | x => match elemOf T t, asSl x with
    | some (_, d), some (cs, n) =>
      match bndX 0 lo, bndX (n : Int) hi with
      | some l, some h => if 0 ≤ l ∧ l ≤ h ∧ h ≤ (n : Int) ∧ cs.length = n * d.size then out (.of (.sl ((cs.drop (l.toNat * d.size)).take ((h.toNat - l.toNat) * d.size)) (h.toNat - l.toNat))) else none
      | _, _ => none
    | _, _ => none

def loadX (T : TT) (objs : List Ob) (t : Nat) : X → Out
  | .ptr r off => match objs[r]? with
    | some (.var _ xs) => outO (pieceX T t (xs.drop off))
    | _ => none
  | .of (.ref cs) => outO ((pieceC T t cs).map .of)
  | _ => none

def fieldOff (T : TT) (t f : Nat) : Option (Nat × Nat) := (T t).bind fun d => d.fields[f]?

def fieldAddrX (T : TT) (t f : Nat) (x : X) : Out := match fieldOff T t f with
  | some (o, z) => if 0 < z then match x with
    | .ptr r off => out (.ptr r (off + o))
    | .of (.ref cs) => out (.of (.ref (cs.drop o)))
    | _ => none else none
  | none => none

def fieldTy : TypeDesc → Nat → Option Nat
  | .struct fs, i => (fs[i]?).map (·.type)
  | _, _ => none

def fieldX (T : TT) (t f : Nat) (x : X) : Out := match T t with
  | some d => match d.fields[f]?, fieldTy d.und f with
    | some (o, _), some u => match x with
      | .agg xs => outO (pieceX T u (xs.drop o))
      | .of (.agg cs) => outO ((pieceC T u (cs.drop o)).map .of)
      | _ => none
    | _, _ => none
  | none => none

def indexAddrX (T : TT) (t : Nat) (x i : X) : Out := match litInt i with
  | none => none
  | some i => match T t with
    | some { und := .slice e, .. } => match T e, asSl x with
      | some d, some (cs, n) => if 0 ≤ i ∧ i < (n : Int) ∧ cs.length = n * d.size ∧ 0 < d.size then out (.of (.ref (cs.drop (i.toNat * d.size)))) else none
      | _, _ => none
    | some { und := .array n e, .. } => match T e with
      | some d => if 0 ≤ i ∧ i < (n : Int) then match x with
        | .ptr r off => out (.ptr r (off + i.toNat * d.size))
        | .of (.ref cs) => out (.of (.ref (cs.drop (i.toNat * d.size))))
        | _ => none else none
      | none => none
    | _ => none

def indexX (T : TT) (t : Nat) (x i : X) : Out := match litInt i with
  | none => none
  | some i => match x with
    | .of (.lit (.string s)) => if h : isStrD ((T t).map (·.und)) = true ∧ 0 ≤ i ∧ i.toNat < s.size then out (.of (.lit (.int .u8 (s[i.toNat]'h.2.2).toNat))) else none
    | .agg xs => match T t with
      | some { und := .array n e, .. } => match T e with
        | some d => if 0 ≤ i ∧ i < (n : Int) then outO (pieceX T e (xs.drop (i.toNat * d.size))) else none
        | none => none
      | _ => none
    | .of (.agg cs) => match T t with
      | some { und := .array n e, .. } => match T e with
        | some d => if 0 ≤ i ∧ i < (n : Int) then outO ((pieceC T e (cs.drop (i.toNat * d.size))).map .of) else none
        | none => none
      | _ => none
    | _ => none

def isSlD : Option TypeDesc → Bool
  | some (.slice _) => true
  | _ => false

def lenX (u : Option TypeDesc) (x : X) : Out := match x with
  | .of (.lit (.string s)) => if isStrD u then out (xint s.size) else none
  | x => match asSl x with
    | some (_, n) => if isSlD u then out (xint n) else none
    | none => none

/-- Cells, as bytes. -/
def unbytes : List C → Option (List UInt8)
  | [] => some []
  | .lit (.int .u8 n) :: r => (unbytes r).map (UInt8.ofNat n.toNat :: ·)
  | _ => none
def convB (T : TT) (src : Option TD) (x : X) : Out := match src, asSl x with
  | some { und := .slice e, .. }, some (cs, n) => if isU8T (T e) = true ∧ cs.length = n then outO ((unbytes cs).map fun l => xstr ⟨l.toArray⟩) else none
  | _, _ => none
def convertX (T : TT) (src dst : Nat) (x : X) : Out := match T src, (T dst).map (·.und), x with
  | some _, some (TypeDesc.int k), .of (.lit (.int _ n)) => out (.of (.lit (.int k (k.wrap n))))
  | some _, some TypeDesc.string, .of (.lit (.string s)) => out (.of (.lit (.string s)))
  | d, some TypeDesc.string, x => convB T d x
  | _, _, _ => none

/-- The place of a key. -/
def findX (kind : TypeDesc) (k : Value) : List (Value × C) → Nat → Option (Option Nat)
  | [], _ => some none
  | e :: es, i => match Instr.sameNow kind k e.1 with
    | some true => some (some i)
    | some false => findX kind k es (i + 1)
    | none => none
def keyKind : TypeDesc → Bool
  | .int _ => true
  | .string => true
  | .bool => true
  | _ => false
def litOf : X → Option Value
  | .of (.lit v) => some v
  | _ => none
def mapOf (objs : List Ob) : X → Option (List (Value × C))
  | .mp r => match objs[r]? with
    | some (.map es) => some es
    | _ => none
  | .of (.lit (.map none)) => some []
  | _ => none
def zero1 (T : TT) (t : Nat) : Option X := match T t with
  | some d => pieceX T t (zeroX d)
  | none => none
def mapTy (T : TT) (t : Nat) : Option (TypeDesc × Nat) := match T t with
  | some { und := .map kt et, .. } => match (T kt).map (·.und) with
    | some kind => if keyKind kind then some (kind, et) else none
    | none => none
  | _ => none
/-- Does a literal fit a field of this type? -/
def fitD : Option TypeDesc → Value → Bool
  | some (.int _), .int _ _ => true
  | some .string, .string _ => true
  | some .bool, .bool _ => true
  | _, _ => false
/-- '==' of two structs whose fields are scalars, field by field. -/
def eqFlat (T : TT) : Nat → List Field → List C → List C → Option Bool
  | _, [], [], [] => some true
  | o, f :: fs, .lit u :: r, .lit v :: q =>
    if f.name != "_" && f.offset == o && fitD ((T f.type).map (·.und)) u && fitD ((T f.type).map (·.und)) v then match eqLit u v with
      | some true => eqFlat T (o + 1) fs r q
      | b => b
    else none
  | _, _, _, _ => none
def eqAgg (P : Program) (T : TT) (t : Nat) (cs ds : List C) : Option Bool := match T t with
  | some { und := .struct fs, .. } => if P.stoodInHeld t = false ∧ P.eqGuardType P.depth t = false then eqFlat T 0 fs.toList cs ds else none
  | _ => none
def binAgg (P : Program) (T : TT) (t : Nat) (op : BinOp) : Option C → Option C → Out
  | some (.agg cs), some (.agg ds) => match op with
    | .eql => outO ((eqAgg P T t cs ds).map xbool)
    | .neq => outO ((eqAgg P T t cs ds).map fun b => xbool (!b))
    | _ => none
  | _, _ => none
def binX (P : Program) (T : TT) (t : Nat) (u : Option TypeDesc) (op : BinOp) (x y : X) : Out := match litOf x, litOf y with
  | some a, some b => outO ((binLit u op a b).map fun v => .of (.lit v))
  | _, _ => binAgg P T t op x.rd y.rd

def lookupX (T : TT) (objs : List Ob) (t : Nat) (x k : X) (ok : Bool) : Out := match mapTy T t, litOf k, mapOf objs x with
  | some (kind, et), some kv, some es => match findX kind kv es 0 with
    | some (some i) => outO ((es[i]?).map fun e => if ok then .tup [.of e.2, xbool true] else .of e.2)
    | some none => outO ((zero1 T et).map fun z => if ok then .tup [z, xbool false] else z)
    | none => none
  | _, _, _ => none
def putX (kind : TypeDesc) (k : Value) (c : C) (es : List (Value × C)) : Option (List (Value × C)) := match findX kind k es 0 with
  | some (some i) => some (es.set i (k, c))
  | some none => some (es ++ [(k, c)])
  | none => none
def delX (kind : TypeDesc) (k : Value) (es : List (Value × C)) : Option (List (Value × C)) := match findX kind k es 0 with
  | some (some i) => some (es.eraseIdx i)
  | some none => some es
  | none => none

/-- An answer: does it panic; what is handed back; the objects behind it: those that were given, then new ones. -/
structure An where
  pan : Bool
  rs : List X
  obs : List Ob

/-- How a call is answered, by what it is given: values, and the objects that they name. -/
abbrev Orc := Nat → List X → List Ob → Option An

/-- How calls are answered; which functions take or give objects; which take rights. -/
structure En where
  orc : Orc
  obj : Nat → Bool
  tk : Nat → Bool

def oneX : List X → X
  | [x] => x
  | xs => .tup xs

def callable (P : Program) (f : Nat) : Bool := match P.funcs[f]? with
  | some fn => fn.body.isSome && !(fn.name == "runtime.NumGoroutine")
  | none => false

def nameTk (clk ix : Nat) : Tk → Option Tk
  | .nm 0 0 i => some (.nm clk ix i)
  | _ => none
def nameX (clk ix : Nat) (xs : List X) : List X := X.trs (fun _ => none) (nameTk clk ix) xs

/-- A call of a Go function on plain data. -/
def callX (P : Program) (E : En) (clk ix f : Nat) (cs : List C) : Out :=
  if callable P f && !E.obj f then match E.orc f (cs.map .of) [] with
    | some ⟨false, rs, []⟩ => out (oneX (nameX clk ix rs))
    | _ => none
  else none

/-- Is it a type, and no interface's? -/
def ifcD : Option TypeDesc → Bool
  | none => false
  | some (.interface _) => false
  | some _ => true

/-- The lesser of two numbers. -/
def minX (x y : X) : Out := match litInt x, litInt y with
  | some a, some b => out (xint (if b < a then b else a))
  | _, _ => none

/-- A call. -/
def valCall (P : Program) (T : TT) (E : En) (s : S) (ix : Nat) : Callee → List Operand → List Nat → Out
  | .builtin .len, [x], [t] => lenX ((T t).map (·.und)) (s.ev x)
  | .builtin .append, [a, b], [st, xt] => appendX T (.nm s.clk ix 0) st xt (s.ev a) (s.ev b)
  | .builtin .min, [a, b], _ => minX (s.ev a) (s.ev b)
  | .value f, args, _ => match s.ev f, rdAll s.ev args with
    | .of (.fn f caps), some cs => callX P E s.clk ix f (cs ++ caps)
    | _, _ => none
  | _, _, _ => none

/-- An operation that turns no object. -/
def val (P : Program) (T : TT) (E : En) (s : S) (ix : Nat) (o : Oper) : Out :=
  match o.op with
  | .move x | .assign x => out (s.ev x)
  | .pick c a b => match litBool (s.ev c) with
    | some b' => out (if b' then s.ev a else s.ev b)
    | none => none
  | .binOp op t x y _ => binX P T t ((T t).map (·.und)) op (s.ev x) (s.ev y)
  | .unOp op _ x => match s.ev x with
    | .of (.lit u) => outO ((unLit op u).map fun v => .of (.lit v))
    | _ => none
  | .load t a => loadX T s.objs t (s.ev a)
  | .fieldAddr t x f => fieldAddrX T t f (s.ev x)
  | .field t x f => fieldX T t f (s.ev x)
  | .indexAddr t x i => indexAddrX T t (s.ev x) (s.ev i)
  | .index t x i => indexX T t (s.ev x) (s.ev i)
  | .slice t x lo hi none => sliceX T t (s.ev x) (lo.map s.ev) (hi.map s.ev)
  | .build t ps => match T t, partsX s.ev ps.toList with
    | some d, some qs => match d.und with
      | .struct _ => outO ((fillX (fun i => d.fields[i]?) (zeroX d) qs).map .agg)
      | .array _ e => match T e with
        | some de => outO ((fillX (fun i => some (i * de.size, de.size)) (zeroX d) qs).map .agg)
        | none => none
      | _ => none
    | _, _ => none
  | .buildSlice t' n ps => match elemOf T t', partsX s.ev ps.toList with
    | some (e, d), some qs =>
      if n * d.size ≤ 16777216 ∧ 0 < d.size ∧ d.zero.length = d.size then match fillX (fun i => some (i * d.size, d.size)) ((List.replicate n (zeroX d)).flatten) qs with
        | some xs => match X.rds xs with
          | some cs => out (.own (.nm s.clk ix 0) e d.size cs n)
          | none => none
        | none => none
      else none
    | _, _ => none
  | .extract x i => match s.ev x with
    | .tup xs => outO (xs[i]?)
    | .of (.tup cs) => outO ((cs[i]?).map .of)
    | _ => none
  | .nilCheck x => match s.ev x with
    | .ptr r off => out (.ptr r off)
    | .of (.ref cs) => out (.of (.ref cs))
    | _ => none
  | .makeFunc (.func f) first caps => if first.size = 0 then match rdAll s.ev caps.toList with
    | some cs => out (.of (.fn f cs))
    | none => none
    else none
  | .convert a b x => convertX T a b (s.ev x)
  | .lookup t x i ok => lookupX T s.objs t (s.ev x) (s.ev i) ok
  | .makeInterface t x => match ifcD ((T t).map (·.und)), (s.ev x).rd with
    | true, some c => out (.of (.ifc t c))
    | _, _ => none
  | .call { callee := cal, args := args, argTypes := tys } => valCall P T E s ix cal args.toList tys.toList
  | _ => none

/-- May this operation use up the right? One of an earlier region, or one that an operation yields for which it waits. -/
def okTk (clk : Nat) (after : List Edge) : Option Tk → Bool
  | some (.nm c ix _) => decide (c < clk) || (decide (c = clk) && after.any fun e => Region.binds .any e && e.on == ix)
  | _ => true

/-- An operation that turns no object. -/
def stepV (P : Program) (T : TT) (E : En) (s : S) (ix : Nat) (o : Oper) : Option (Option X × S) := match val P T E s ix o with
  | some (x, t) => if okTk s.clk o.after.toList t = true then some (none, (s.drop t).put o.dst x) else none
  | none => none

/-- Rights that cells of an object come to hold. -/
def cellTks (r : Nat) : Nat → List X → List (Tk × Tk)
  | _, [] => []
  | off, .own t _ _ _ _ :: l => (t, .cell r off) :: cellTks r (off + 1) l
  | off, _ :: l => cellTks r (off + 1) l
def assoc : List (Tk × Tk) → Tk → Option Tk
  | [], _ => none
  | (a, b) :: l, t => if a = t then some b else assoc l t
/-- The rights when some go over to cells: which ones are written on, which ones go over. -/
def moveTk (r off n : Nat) (mv : List (Tk × Tk)) (t : Tk) : Option Tk := match assoc mv t with
  | some t' => some t'
  | none => match t with
    | .cell r' o' => if r' = r ∧ off ≤ o' ∧ o' < off + n then none else some t
    | .nm .. => some t
def noOwn : List X → Bool
  | [] => true
  | .own .. :: _ => false
  | _ :: l => noOwn l
def S.tr (ρ : Tk → Option Tk) (s : S) : S := { s with fr := fun j => (s.fr j).tr some ρ, objs := s.objs.map (Ob.tr some ρ) }
/-- Values laid into an object's cells (which held ys): the rights that they hold go over to the cells. -/
def layS (r off : Nat) (xs ys : List X) (s : S) : S := if noOwn xs && noOwn ys then s else s.tr (moveTk r off xs.length (cellTks r off xs))

def allocS (s : S) (d : Option Nat) (ty : Nat) (xs : List X) : S := (layS s.objs.length 0 xs [] { s with objs := s.objs ++ [Ob.var ty xs] }).put d (.ptr s.objs.length 0)

def storeS (s : S) (d : Option Nat) (n r off : Nat) (xs : List X) : Option S := match s.objs[r]? with
  | some (.var ty ys) => if xs.length = n ∧ off + xs.length ≤ ys.length then
      some ((layS r off xs ((ys.drop off).take xs.length) { s with objs := s.objs.set r (Ob.var ty (ys.take off ++ xs ++ ys.drop (off + xs.length))) }).put d (.of .undef))
    else none
  | _ => none

/-- What is called, and with what. -/
def target (s : S) (c : Callee) (args : List Operand) : Option (Nat × List X) := match c with
  | .value f => match s.ev f with
    | .of (.fn g caps) => some (g, args.map s.ev ++ caps.map .of)
    | .clo g caps => some (g, args.map s.ev ++ caps)
    | _ => none
  | _ => none

/-- The state behind a call. -/
def backS (s : S) (ix : Nat) (d : Option Nat) (refs : List Nat) (ts : List Tk) (an : An) : Option (Option X × S) :=
  let σ := fun i => some (sigBack refs s.objs.length i)
  let ρ := rhoBack refs s.objs.length s.clk ix
  if refs.length ≤ an.obs.length then
    let s' : S := { s with fr := fun j => (s.fr j).tr some (keepTk refs ts), objs := setObs σ ρ (s.objs.map (Ob.tr some (keepTk refs ts))) refs an.obs ++ (an.obs.drop refs.length).map (Ob.tr σ ρ) }
    match an with
    | ⟨true, [x], _⟩ => some (some (x.tr σ ρ), s')
    | ⟨true, _, _⟩ => none
    | ⟨false, rs, _⟩ => some (none, s'.put d (oneX (X.trs σ ρ rs)))
  else none

/-- A call that takes or gives objects. -/
def callS (P : Program) (E : En) (s : S) (ix : Nat) (d : Option Nat) (f : Nat) (us : List X) : Option (Option X × S) :=
  if callable P f then
    let refs := reach s.objs 999 (X.refsL us) []
    let ts := if E.tk f then nub (X.toksL us) [] else []
    match pickObs (pos refs) (rhoIn refs ts) (dropTs ts s.objs) refs with
    | some obs => match E.orc f (X.trs (pos refs) (rhoIn refs ts) us) obs with
      | some an => backS s ix d refs ts an
      | none => none
    | none => none
  else none

def step (P : Program) (T : TT) (E : En) (dr : Bool) (s : S) (ix : Nat) (o : Oper) : Option (Option X × S) :=
  if dr then stepV P T E s ix o else
  match o.op with
  | .alloc t => match T t with
    | some d => some (none, allocS s o.dst t (zeroX d))
    | none => none
  | .box t x => match T t, cellsX (s.ev x) with
    | some d, some xs => if xs.length = d.size then some (none, allocS s o.dst t xs) else none
    | _, _ => none
  | .store t a x => match T t, s.ev a, cellsX (s.ev x) with
    | some d, .ptr r off, some xs => (storeS s o.dst d.size r off xs).map fun s => (none, s)
    | _, _, _ => none
  | .makeMap _ none => some (none, { s with objs := s.objs ++ [Ob.map []] }.put o.dst (.mp s.objs.length))
  | .mapUpdate t m k x => match mapTy T t, s.ev m, litOf (s.ev k), (s.ev x).rd with
    | some (kind, _), .mp r, some kv, some c => match s.objs[r]? with
      | some (.map es) => match putX kind kv c es with
        | some es' => some (none, { s with objs := s.objs.set r (Ob.map es') }.put o.dst (.of .undef))
        | none => none
      | _ => none
    | _, _, _, _ => none
  | .insert t m k x => match mapTy T t, s.ev m, litOf (s.ev k), (s.ev x).rd with
    | some (kind, _), .mp r, some kv, some c => match s.objs[r]? with
      | some (.map es) => match putX kind kv c es with
        | some es' => some (none, { s with objs := s.objs.set r (Ob.map es') }.put o.dst (.of .undef))
        | none => none
      | _ => none
    | _, _, _, _ => none
  | .call { callee := .builtin .delete, args := args, argTypes := tys } => match args.toList, tys.toList with
    | [m, k], [t, _] => match mapTy T t, s.ev m, litOf (s.ev k) with
      | some (kind, _), .mp r, some kv => match s.objs[r]? with
        | some (.map es) => match delX kind kv es with
          | some es' => some (none, { s with objs := s.objs.set r (Ob.map es') }.put o.dst (.tup []))
          | none => none
        | _ => none
      | _, _, _ => none
    | _, _ => none
  | .panic x => match (s.ev x).rd with
    | some (.ifc t c) => some (some (.of (.ifc t c)), s)
    | _ => none
  | .call { callee := .value f, args := args, argTypes := _ } => match target s (.value f) args.toList with
    | some (g, us) => if E.obj g then callS P E s ix o.dst g us else stepV P T E s ix o
    | none => none
  | _ => stepV P T E s ix o

def guardOk (ops : Array Oper) (s : S) (o : Oper) : Option Bool :=
  match o.guard with
  | none => some true
  | some (j, want) => match (ops[j]?).bind (·.dst) with
    | some d => match s.fr d with
      | .of (.lit (.bool b)) => some (b == want)
      | .of .undef => some false
      | _ => none
    | none => some false

def stepG (P : Program) (T : TT) (E : En) (dr : Bool) (ops : Array Oper) (s : S) (ix : Nat) (o : Oper) : Option (Option X × S) :=
  match guardOk ops s o with
  | some true => step P T E dr s ix o
  | some false => some (none, s.put o.dst (.of .undef))
  | none => none

def evOps (P : Program) (T : TT) (E : En) (dr : Bool) (ops : Array Oper) : Nat → List Oper → S → Option (Option X × S)
  | _, [], s => some (none, s)
  | k, o :: r, s => match stepG P T E dr ops s k o with
    | some (none, s') => evOps P T E dr ops (k + 1) r s'
    | some (some x, s') => some (some x, s')
    | none => none

def isStOp : Op → Bool
  | .store .. => true
  | _ => false
def stLast : List Oper → Bool
  | [] => false
  | [o] => isStOp o.op && o.guard.isNone
  | _ :: o :: l => stLast (o :: l)
def isMkOp (obj : Nat → Bool) : Op → Bool
  | .call { callee := .value (.func g), args := args, .. } => args.isEmpty && obj g
  | _ => false
def mkFirst (obj : Nat → Bool) : List Oper → Bool
  | [] => false
  | o :: _ => isMkOp obj o.op && o.guard.isNone
def spB (obj : Nat → Bool) (l : List Oper) : Bool := mkFirst obj l || stLast l
/-- The map that such a call makes. -/
def mkA (P : Program) (E : En) : Op → Option (List (Value × C))
  | .call { callee := .value (.func g), .. } => if callable P g then match E.orc g [] [] with
    | some ⟨false, [.mp 0], [.map es]⟩ => some es
    | _ => none
    else none
  | _ => none
def mkS (P : Program) (E : En) (s : S) (o : Oper) : Option S := (mkA P E o.op).map fun es => { s with objs := s.objs ++ [Ob.map es] }.put o.dst (.mp s.objs.length)
def evOpsB (P : Program) (T : TT) (E : En) (ops : Array Oper) : Nat → List Oper → S → Option (Option X × S)
  | _, [], _ => none
  | k, [o], s => match stepG P T E false ops s k o with
    | some (none, s') => some (none, s')
    | _ => none
  | k, o :: o' :: l, s => match stepG P T E true ops s k o with
    | some (none, s') => evOpsB P T E ops (k + 1) (o' :: l) s'
    | _ => none
def evSp (P : Program) (T : TT) (E : En) (ops : Array Oper) (l : List Oper) (s : S) : Option (Option X × S) :=
  if mkFirst E.obj l = true then match l with
    | o :: r => match mkS P E s o with
      | some s1 => evOps P T E true ops 1 r s1
      | none => none
    | [] => none
  else evOpsB P T E ops 0 l s
/-- A region. -/
def evR (P : Program) (T : TT) (E : En) (draw : Bool) (ops : Array Oper) (s : S) : Option (Option X × S) :=
  if (draw && spB E.obj ops.toList) = true then evSp P T E ops ops.toList s else evOps P T E draw ops 0 ops.toList s
/-- Each operation but the last is waited for by a later one. -/
def feedsB (ops : Array Oper) : Bool := (List.range (ops.size - 1)).all fun i => (List.range ops.size).any fun k => decide (i < k) && match ops[k]? with
  | some o => o.after.any fun e => Region.binds .any e && e.on == i
  | none => false

inductive Ex where
  | normal
  | exit (id : Nat)
  | ret
  | pan (x : X)

def initS (xs : List X) (obs : List Ob) : S := { fr := fun j => xs.getD j (.of .undef), objs := obs, clk := 1 }

/-- What a function hands back, as its slots say. -/
def resXs (T : TT) (s : S) : List ResultVar → Option (List X)
  | [] => some []
  | .tmp t :: r => (resXs T s r).map (s.fr t :: ·)
  | .cell a t :: r => match loadX T s.objs t (s.fr a), resXs T s r with
    | some (x, _), some q => some (x :: q)
    | _, _ => none

/-- The end of a call: the objects that were given, and the new ones that can still be come to; the rights that come with the results. -/
def leave (m : Nat) (pan : Bool) (rs : List X) (objs : List Ob) : Option An :=
  let refs := reach objs 999 (X.refsL rs ++ ((objs.take m).map Ob.refs).flatten) (List.range m)
  let ts := (nub (X.toksL rs) []).filter fun t => match t with
    | .nm .. => true
    | .cell r _ => !decide (r ∈ refs)
  (pickObs (pos refs) (rhoIn refs ts) objs refs).map fun obs => ⟨pan, X.trs (pos refs) (rhoIn refs ts) rs, obs⟩

def dstOk (N : Nat) (o : Oper) : Bool := match o.dst with
  | some d => decide (d < N)
  | none => true

/-- A region is in order: its slots are there; and where it draws its order, the order of the text serves. -/
def opsOk (N : Nat) (ops : Array Oper) (draw : Bool) : Bool := ops.all (dstOk N) && (!draw || (Region.lexB .any ops && (!stLast ops.toList || feedsB ops)))

def codeOk (N : Nat) : Code → Bool
  | .region _ ops draw => opsOk N ops draw
  | .seq a b => codeOk N a && codeOk N b
  | .cond _ a b => codeOk N a && codeOk N b
  | .block _ c => codeOk N c
  | .loop c => codeOk N c
  | _ => true

def bodyOf (P : Program) (f : Nat) : Code := match P.funcs[f]? with
  | some fn => fn.body.getD .skip
  | none => .skip
def arity (P : Program) (f : Nat) : Nat := match P.funcs[f]? with
  | some fn => fn.ntmps
  | none => 0
def resVars (P : Program) (f : Nat) : List ResultVar := match P.funcs[f]? with
  | some fn => fn.results.toList
  | none => []
def fnOk (P : Program) (f : Nat) : Bool := match P.funcs[f]? with
  | some fn => fn.body.isSome && codeOk fn.ntmps (fn.body.getD .skip)
  | none => false

/-- What is given: answers to calls; which functions take or give objects; which take rights. -/
structure Pr where
  prim : Orc
  obj : Nat → Bool
  tk : Nat → Bool

def callOf (P : Program) (T : TT) (run : Code → S → Option (Ex × S)) (f : Nat) (xs : List X) (obs : List Ob) : Option An :=
  if fnOk P f = true ∧ xs.length ≤ arity P f then match run (bodyOf P f) (initS xs obs) with
    | some (.normal, s) => (resXs T s (resVars P f)).bind fun rs => leave obs.length false rs s.objs
    | some (.ret, s) => (resXs T s (resVars P f)).bind fun rs => leave obs.length false rs s.objs
    | some (.pan x, s) => leave obs.length true [x] s.objs
    | _ => none
  else none

def orcOf (P : Program) (T : TT) (pr : Pr) (run : Code → S → Option (Ex × S)) : Orc := fun f xs obs =>
  match pr.prim f xs obs with
  | some r => some r
  | none => callOf P T run f xs obs

def enOf (P : Program) (T : TT) (pr : Pr) (run : Code → S → Option (Ex × S)) : En := ⟨orcOf P T pr run, pr.obj, pr.tk⟩

def evC (P : Program) (T : TT) (pr : Pr) : Nat → Code → S → Option (Ex × S)
  | 0, _, _ => none
  | n + 1, c, s => match c with
    | .skip => some (.normal, s)
    | .ret => some (.ret, s)
    | .exit i => some (.exit i, s)
    | .seq a b => match evC P T pr n a s with
      | some (.normal, s') => evC P T pr n b s'
      | r => r
    | .block i c => match evC P T pr n c s with
      | some (.exit j, s') => some (if j = i then .normal else .exit j, s')
      | r => r
    | .cond c a b => match litBool (s.ev c) with
      | some true => evC P T pr n a s
      | some false => evC P T pr n b s
      | none => none
    | .loop c => match evC P T pr n c s with
      | some (.normal, s') => evC P T pr n (.loop c) s'
      | r => r
    | .region _ ops draw => match evR P T (enOf P T pr (evC P T pr n)) draw ops s with
      | some (none, s') => some (.normal, { s' with clk := s'.clk + 1 })
      | some (some x, s') => some (.pan x, { s' with clk := s'.clk + 1 })
      | none => none
    | _ => none

end Go.Pe
namespace Go.Pe
open Go.RowKit

abbrev Mem := Nat → Nat → Option Value

mutual
def Rep (m : Mem) : C → Value → Prop
  | .any, _ => True
  | .undef, v => v = undef
  | .lit u, v => v = u ∧ u.oneCell' = true
  | .sl cs n, v => ∃ a cap vs, v = .slice a n cap ∧ n ≤ cap ∧ RepL m cs vs ∧ (vs ≠ [] → ∃ b o, a = some ⟨b, o, none⟩ ∧ ∀ i u, vs[i]? = some u → m b (o + i) = some u)
  | .ref cs, v => ∃ b o vs, v = .pointer (some ⟨b, o, none⟩) ∧ RepL m cs vs ∧ ∀ i u, vs[i]? = some u → m b (o + i) = some u
  | .fn f caps, v => ∃ vs : List Value, v = .func (.func f) #[] vs.toArray ∧ RepL m caps vs
  | .agg cs, v => ∃ vs : List Value, v = .agg vs.toArray ∧ (∀ u ∈ vs, u.oneCell' = true) ∧ RepL m cs vs
  | .tup cs, v => ∃ vs : List Value, v = .tuple vs.toArray ∧ RepL m cs vs
  | .ifc t c, v => ∃ u, v = .iface t u ∧ Rep m c u
def RepL (m : Mem) : List C → List Value → Prop
  | [], vs => vs = []
  | c :: cs, vs => ∃ v r, vs = v :: r ∧ Rep m c v ∧ RepL m cs r
end

def Mem.le (m m' : Mem) : Prop := ∀ b o v, m b o = some v → m' b o = some v
theorem Mem.le_refl (m : Mem) : m.le m := fun _ _ _ h => h
theorem Mem.le_trans {a b c : Mem} (h : a.le b) (h' : b.le c) : a.le c := fun _ _ _ x => h' _ _ _ (h _ _ _ x)

theorem Rep.mono {m m' : Mem} (h : m.le m') : ∀ (c : C) (v : Value), Rep m c v → Rep m' c v :=
  C.rec (motive_1 := fun c => ∀ v, Rep m c v → Rep m' c v) (motive_2 := fun cs => ∀ vs, RepL m cs vs → RepL m' cs vs)
    (fun _ _ => by simp [Rep]) (fun _ h => by simpa [Rep] using h) (fun _ _ h => by simpa [Rep] using h)
    (fun cs n ih v => by
      simp only [Rep]
      rintro ⟨a, cap, vs, rfl, hn, hl, hm⟩
      exact ⟨a, cap, vs, rfl, hn, ih _ hl, fun hne => by
        obtain ⟨b, o, ha, hc⟩ := hm hne
        exact ⟨b, o, ha, fun i u hu => h _ _ _ (hc i u hu)⟩⟩)
    (fun cs ih v => by
      simp only [Rep]
      rintro ⟨b, o, vs, rfl, hl, hm⟩
      exact ⟨b, o, vs, rfl, ih _ hl, fun i u hu => h _ _ _ (hm i u hu)⟩)
    (fun f cs ih v => by simp only [Rep]; rintro ⟨vs, rfl, hl⟩; exact ⟨vs, rfl, ih _ hl⟩)
    (fun cs ih v => by simp only [Rep]; rintro ⟨vs, rfl, h1, hl⟩; exact ⟨vs, rfl, h1, ih _ hl⟩)
    (fun cs ih v => by simp only [Rep]; rintro ⟨vs, rfl, hl⟩; exact ⟨vs, rfl, ih _ hl⟩)
    (fun t c ih v => by simp only [Rep]; rintro ⟨u, rfl, h⟩; exact ⟨u, rfl, ih _ h⟩)
    (fun vs h => by simpa [RepL] using h)
    (fun c cs ih1 ih2 vs => by simp only [RepL]; rintro ⟨v, r, rfl, h1, h2⟩; exact ⟨v, r, rfl, ih1 _ h1, ih2 _ h2⟩)

theorem RepL.mono {m m' : Mem} (h : m.le m') : ∀ (cs : List C) (vs : List Value), RepL m cs vs → RepL m' cs vs
  | [], vs, hh => by simpa [RepL] using hh
  | c :: cs, vs, hh => by
    simp only [RepL] at hh ⊢
    obtain ⟨v, r, rfl, h1, h2⟩ := hh
    exact ⟨v, r, rfl, Rep.mono h _ _ h1, RepL.mono h _ _ h2⟩

theorem RepL.length {m : Mem} : ∀ {cs : List C} {vs : List Value}, RepL m cs vs → vs.length = cs.length
  | [], vs, h => by simp only [RepL] at h; simp [h]
  | c :: cs, vs, h => by
    simp only [RepL] at h
    obtain ⟨v, r, rfl, _, h2⟩ := h
    simp [RepL.length h2]

theorem RepL.get {m : Mem} : ∀ {cs : List C} {vs : List Value}, RepL m cs vs → ∀ (i : Nat) (c : C), cs[i]? = some c → ∃ v, vs[i]? = some v ∧ Rep m c v
  | [], vs, h, i, c, hc => by simp at hc
  | d :: cs, vs, h, i, c, hc => by
    simp only [RepL] at h
    obtain ⟨v, r, rfl, h1, h2⟩ := h
    cases i with
    | zero => simp at hc; subst hc; exact ⟨v, by simp, h1⟩
    | succ i => simp at hc; simpa using RepL.get h2 i c hc

theorem RepL.drop {m : Mem} : ∀ (k : Nat) {cs : List C} {vs : List Value}, RepL m cs vs → RepL m (cs.drop k) (vs.drop k)
  | 0, cs, vs, h => by simpa using h
  | k + 1, [], vs, h => by simp only [RepL] at h; subst h; simp [RepL]
  | k + 1, c :: cs, vs, h => by
    simp only [RepL] at h
    obtain ⟨v, r, rfl, _, h2⟩ := h
    simpa using RepL.drop k h2

theorem RepL.take {m : Mem} : ∀ (k : Nat) {cs : List C} {vs : List Value}, RepL m cs vs → RepL m (cs.take k) (vs.take k)
  | 0, cs, vs, h => by simp [RepL]
  | k + 1, [], vs, h => by simp only [RepL] at h; subst h; simp [RepL]
  | k + 1, c :: cs, vs, h => by
    simp only [RepL] at h
    obtain ⟨v, r, rfl, h1, h2⟩ := h
    simp only [List.take_succ_cons, RepL]
    exact ⟨v, r.take k, rfl, h1, RepL.take k h2⟩

theorem RepL.append {m : Mem} : ∀ {cs ds : List C} {vs us : List Value}, RepL m cs vs → RepL m ds us → RepL m (cs ++ ds) (vs ++ us)
  | [], ds, vs, us, h, h' => by simp only [RepL] at h; subst h; simpa using h'
  | c :: cs, ds, vs, us, h, h' => by
    simp only [RepL] at h
    obtain ⟨v, r, rfl, h1, h2⟩ := h
    simp only [List.cons_append, RepL]
    exact ⟨v, r ++ us, rfl, h1, RepL.append h2 h'⟩

abbrev Own := Tk → Option (Value × Nat × Nat × Nat)

structure Know where
  m : Mem
  μ : Nat → Option Nat

mutual
def RepX (k : Know) (ow : Own) : X → Value → Prop
  | .of c, v => Rep k.m c v
  | .nil, v => v = .slice none 0 0
  | .own t e z cs n, v => ow t = some (v, e, z, n) ∧ cs.length = n * z ∧ Rep k.m (.sl cs n) v
  | .ptr r off, v => ∃ b, k.μ r = some b ∧ v = .pointer (some ⟨b, off, none⟩)
  | .mp r, v => ∃ b, k.μ r = some b ∧ v = .map (some b)
  | .clo f caps, v => ∃ vs : List Value, v = .func (.func f) #[] vs.toArray ∧ RepXs k ow caps vs
  | .agg xs, v => ∃ vs : List Value, v = .agg vs.toArray ∧ (∀ u ∈ vs, u.oneCell' = true) ∧ RepXs k ow xs vs
  | .tup xs, v => ∃ vs : List Value, v = .tuple vs.toArray ∧ RepXs k ow xs vs
def RepXs (k : Know) (ow : Own) : List X → List Value → Prop
  | [], vs => vs = []
  | x :: xs, vs => ∃ v r, vs = v :: r ∧ RepX k ow x v ∧ RepXs k ow xs r
end

def Know.le (k k' : Know) : Prop := k.m.le k'.m ∧ ∀ r b, k.μ r = some b → k'.μ r = some b
theorem Know.le_refl (k : Know) : k.le k := ⟨fun _ _ _ h => h, fun _ _ h => h⟩
theorem Know.le_trans {a b c : Know} (h : a.le b) (h' : b.le c) : a.le c := ⟨Mem.le_trans h.1 h'.1, fun _ _ x => h'.2 _ _ (h.2 _ _ x)⟩

/-- The rights that stay. -/
def Own.sub (ow ow' : Own) : Prop := ∀ t p, ow t = some p → ow' t = some p

theorem RepX.mono {k k' : Know} {ow ow' : Own} (h : k.le k') (ho : ow.sub ow') : ∀ (x : X) (v : Value), RepX k ow x v → RepX k' ow' x v :=
  X.rec (motive_1 := fun x => ∀ v, RepX k ow x v → RepX k' ow' x v) (motive_2 := fun xs => ∀ vs, RepXs k ow xs vs → RepXs k' ow' xs vs)
    (fun c v hh => by simp only [RepX] at hh ⊢; exact Rep.mono h.1 _ _ hh)
    (fun v hh => by simpa only [RepX] using hh)
    (fun t e z cs n v hh => by simp only [RepX] at hh ⊢; exact ⟨ho _ _ hh.1, hh.2.1, Rep.mono h.1 _ _ hh.2.2⟩)
    (fun r off v hh => by simp only [RepX] at hh ⊢; obtain ⟨b, hb, hv⟩ := hh; exact ⟨b, h.2 _ _ hb, hv⟩)
    (fun r v hh => by simp only [RepX] at hh ⊢; obtain ⟨b, hb, hv⟩ := hh; exact ⟨b, h.2 _ _ hb, hv⟩)
    (fun f xs ih v hh => by simp only [RepX] at hh ⊢; obtain ⟨vs, hv, hl⟩ := hh; exact ⟨vs, hv, ih _ hl⟩)
    (fun xs ih v hh => by simp only [RepX] at hh ⊢; obtain ⟨vs, hv, h1, hl⟩ := hh; exact ⟨vs, hv, h1, ih _ hl⟩)
    (fun xs ih v hh => by simp only [RepX] at hh ⊢; obtain ⟨vs, hv, hl⟩ := hh; exact ⟨vs, hv, ih _ hl⟩)
    (fun vs hh => by simpa only [RepXs] using hh)
    (fun x xs ih1 ih2 vs hh => by simp only [RepXs] at hh ⊢; obtain ⟨v, r, hv, h1, h2⟩ := hh; exact ⟨v, r, hv, ih1 _ h1, ih2 _ h2⟩)

theorem RepXs.mono {k k' : Know} {ow ow' : Own} (h : k.le k') (ho : ow.sub ow') : ∀ (xs : List X) (vs : List Value), RepXs k ow xs vs → RepXs k' ow' xs vs
  | [], vs, hh => by simpa only [RepXs] using hh
  | x :: xs, vs, hh => by
    simp only [RepXs] at hh ⊢
    obtain ⟨v, r, hv, h1, h2⟩ := hh
    exact ⟨v, r, hv, RepX.mono h ho _ _ h1, RepXs.mono h ho _ _ h2⟩

/-- A right given up. -/
def Own.del (ow : Own) (t : Tk) : Own := fun t' => if t' = t then none else ow t'

theorem RepX.drop {k : Know} {ow : Own} (t : Tk) : ∀ (x : X) (v : Value), RepX k ow x v → RepX k (ow.del t) (x.drop t) v :=
  X.rec (motive_1 := fun x => ∀ v, RepX k ow x v → RepX k (ow.del t) (x.drop t) v) (motive_2 := fun xs => ∀ vs, RepXs k ow xs vs → RepXs k (ow.del t) (X.drops t xs) vs)
    (fun c v hh => by simpa only [X.drop, RepX] using hh)
    (fun v hh => by simpa only [X.drop, RepX] using hh)
    (fun t' e z cs n v hh => by
      simp only [X.drop]
      split
      · simp only [RepX] at hh ⊢; exact hh.2.2
      · rename_i hne
        simp only [RepX] at hh ⊢
        exact ⟨by simp only [Own.del, hne, if_false]; exact hh.1, hh.2⟩)
    (fun r off v hh => by simpa only [X.drop, RepX] using hh)
    (fun r v hh => by simpa only [X.drop, RepX] using hh)
    (fun f xs ih v hh => by simp only [X.drop, RepX] at hh ⊢; obtain ⟨vs, hv, hl⟩ := hh; exact ⟨vs, hv, ih _ hl⟩)
    (fun xs ih v hh => by simp only [X.drop, RepX] at hh ⊢; obtain ⟨vs, hv, h1, hl⟩ := hh; exact ⟨vs, hv, h1, ih _ hl⟩)
    (fun xs ih v hh => by simp only [X.drop, RepX] at hh ⊢; obtain ⟨vs, hv, hl⟩ := hh; exact ⟨vs, hv, ih _ hl⟩)
    (fun vs hh => by simpa only [X.drops, RepXs] using hh)
    (fun x xs ih1 ih2 vs hh => by simp only [X.drops, RepXs] at hh ⊢; obtain ⟨v, r, hv, h1, h2⟩ := hh; exact ⟨v, r, hv, ih1 _ h1, ih2 _ h2⟩)

theorem RepXs.drop {k : Know} {ow : Own} (t : Tk) : ∀ (xs : List X) (vs : List Value), RepXs k ow xs vs → RepXs k (ow.del t) (X.drops t xs) vs
  | [], vs, hh => by simpa only [X.drops, RepXs] using hh
  | x :: xs, vs, hh => by
    simp only [X.drops, RepXs] at hh ⊢
    obtain ⟨v, r, hv, h1, h2⟩ := hh
    exact ⟨v, r, hv, RepX.drop t _ _ h1, RepXs.drop t _ _ h2⟩

theorem RepXs.length {k : Know} {ow : Own} : ∀ {xs : List X} {vs : List Value}, RepXs k ow xs vs → vs.length = xs.length
  | [], vs, h => by simp only [RepXs] at h; simp [h]
  | c :: cs, vs, h => by
    simp only [RepXs] at h
    obtain ⟨v, r, rfl, _, h2⟩ := h
    simp [RepXs.length h2]

theorem RepXs.get {k : Know} {ow : Own} : ∀ {xs : List X} {vs : List Value}, RepXs k ow xs vs → ∀ (i : Nat) (x : X), xs[i]? = some x → ∃ v, vs[i]? = some v ∧ RepX k ow x v
  | [], vs, h, i, c, hc => by simp at hc
  | d :: cs, vs, h, i, c, hc => by
    simp only [RepXs] at h
    obtain ⟨v, r, rfl, h1, h2⟩ := h
    cases i with
    | zero => simp at hc; subst hc; exact ⟨v, by simp, h1⟩
    | succ i => simp at hc; simpa using RepXs.get h2 i c hc

theorem RepXs.dropN {k : Know} {ow : Own} : ∀ (n : Nat) {xs : List X} {vs : List Value}, RepXs k ow xs vs → RepXs k ow (xs.drop n) (vs.drop n)
  | 0, cs, vs, h => by simpa using h
  | n + 1, [], vs, h => by simp only [RepXs] at h; subst h; simp [RepXs]
  | n + 1, c :: cs, vs, h => by
    simp only [RepXs] at h
    obtain ⟨v, r, rfl, _, h2⟩ := h
    simpa using RepXs.dropN n h2

theorem RepXs.takeN {k : Know} {ow : Own} : ∀ (n : Nat) {xs : List X} {vs : List Value}, RepXs k ow xs vs → RepXs k ow (xs.take n) (vs.take n)
  | 0, cs, vs, h => by simp [RepXs]
  | n + 1, [], vs, h => by simp only [RepXs] at h; subst h; simp [RepXs]
  | n + 1, c :: cs, vs, h => by
    simp only [RepXs] at h
    obtain ⟨v, r, rfl, h1, h2⟩ := h
    simp only [List.take_succ_cons, RepXs]
    exact ⟨v, r.take n, rfl, h1, RepXs.takeN n h2⟩

theorem RepXs.append {k : Know} {ow : Own} : ∀ {cs ds : List X} {vs us : List Value}, RepXs k ow cs vs → RepXs k ow ds us → RepXs k ow (cs ++ ds) (vs ++ us)
  | [], ds, vs, us, h, h' => by simp only [RepXs] at h; subst h; simpa using h'
  | c :: cs, ds, vs, us, h, h' => by
    simp only [RepXs] at h
    obtain ⟨v, r, rfl, h1, h2⟩ := h
    simp only [List.cons_append, RepXs]
    exact ⟨v, r ++ us, rfl, h1, RepXs.append h2 h'⟩

theorem RepXs.of {k : Know} {ow : Own} : ∀ {cs : List C} {vs : List Value}, RepL k.m cs vs → RepXs k ow (cs.map .of) vs
  | [], vs, h => by simpa [RepL, RepXs] using h
  | c :: cs, vs, h => by
    simp only [RepL] at h
    obtain ⟨v, r, rfl, h1, h2⟩ := h
    simp only [List.map_cons, RepXs, RepX]
    exact ⟨v, r, rfl, h1, RepXs.of h2⟩

theorem repX_rd {k : Know} {ow : Own} : ∀ (x : X) (c : C) (v : Value), x.rd = some c → RepX k ow x v → Rep k.m c v :=
  X.rec (motive_1 := fun x => ∀ c v, x.rd = some c → RepX k ow x v → Rep k.m c v) (motive_2 := fun xs => ∀ cs vs, X.rds xs = some cs → RepXs k ow xs vs → RepL k.m cs vs)
    (fun c c' v hr hh => by simp only [X.rd, Option.some.injEq] at hr; subst hr; simpa only [RepX] using hh)
    (fun c' v hr hh => by
      simp only [X.rd, Option.some.injEq] at hr
      subst hr
      simp only [RepX] at hh
      subst hh
      simp only [Rep]
      exact ⟨none, 0, [], rfl, Nat.le_refl _, by simp [RepL], fun h => absurd rfl h⟩)
    (fun t e z cs n c' v hr hh => by
      simp only [X.rd, Option.some.injEq] at hr
      subst hr
      simp only [RepX] at hh
      exact hh.2.2)
    (fun r off c' v hr hh => by simp [X.rd] at hr)
    (fun r c' v hr hh => by simp [X.rd] at hr)
    (fun f xs ih c' v hr hh => by simp [X.rd] at hr)
    (fun xs ih c' v hr hh => by
      simp only [X.rd, Option.map_eq_some_iff] at hr
      obtain ⟨cs, hcs, rfl⟩ := hr
      simp only [RepX] at hh
      obtain ⟨vs, rfl, h1, hl⟩ := hh
      simp only [Rep]
      exact ⟨vs, rfl, h1, ih _ _ hcs hl⟩)
    (fun xs ih c' v hr hh => by simp [X.rd] at hr)
    (fun cs vs hr hh => by
      simp only [X.rds, Option.some.injEq] at hr
      subst hr
      simpa only [RepXs, RepL] using hh)
    (fun x xs ih1 ih2 cs vs hr hh => by
      simp only [X.rds] at hr
      split at hr
      · rename_i c cs' h1 h2
        simp only [Option.some.injEq] at hr
        subst hr
        simp only [RepXs] at hh
        obtain ⟨v, r, rfl, hv, hl⟩ := hh
        simp only [RepL]
        exact ⟨v, r, rfl, ih1 _ _ h1 hv, ih2 _ _ h2 hl⟩
      · cases hr)

theorem repX_rds {k : Know} {ow : Own} : ∀ (xs : List X) (cs : List C) (vs : List Value), X.rds xs = some cs → RepXs k ow xs vs → RepL k.m cs vs
  | [], cs, vs, hr, hh => by
    simp only [X.rds, Option.some.injEq] at hr
    subst hr
    simpa only [RepXs, RepL] using hh
  | x :: xs, cs, vs, hr, hh => by
    simp only [X.rds] at hr
    split at hr
    · rename_i c cs' h1 h2
      simp only [Option.some.injEq] at hr
      subst hr
      simp only [RepXs] at hh
      obtain ⟨v, r, rfl, hv, hl⟩ := hh
      simp only [RepL]
      exact ⟨v, r, rfl, repX_rd _ _ _ h1 hv, repX_rds _ _ _ h2 hl⟩
    · cases hr

/-- The cells of a value: each of one cell. -/
theorem repX_cells {k : Know} {ow : Own} {x : X} {xs : List X} {v : Value} (hc : cellsX x = some xs) (h : RepX k ow x v) :
    RepXs k ow xs v.cells.toList ∧ ∀ u ∈ v.cells.toList, u.oneCell' = true := by
  have single : ∀ (x : X), RepX k ow x v → v.oneCell' = true → RepXs k ow [x] v.cells.toList ∧ ∀ u ∈ v.cells.toList, u.oneCell' = true := by
    intro x hx h1
    have : v.cells = #[v] := by cases v <;> simp_all [Value.cells, Value.oneCell']
    rw [this]
    simp only [RepXs]
    exact ⟨⟨v, [], rfl, hx, rfl⟩, by simpa using h1⟩
  cases x with
  | of c =>
    cases c with
    | any => simp [cellsX] at hc
    | undef => simp [cellsX] at hc
    | tup cs => simp [cellsX] at hc
    | agg cs =>
      simp only [cellsX, Option.some.injEq] at hc
      subst hc
      simp only [RepX, Rep] at h
      obtain ⟨vs, rfl, h1, hl⟩ := h
      exact ⟨by simpa [Value.cells] using RepXs.of hl, by simpa [Value.cells] using h1⟩
    | ifc t c =>
      simp only [cellsX, Option.some.injEq] at hc
      subst hc
      exact single _ h (by simp only [RepX, Rep] at h; obtain ⟨u, rfl, _⟩ := h; rfl)
    | lit u =>
      simp only [cellsX, Option.some.injEq] at hc
      subst hc
      exact single _ h (by simp only [RepX, Rep] at h; rw [h.1]; exact h.2)
    | sl cs n =>
      simp only [cellsX, Option.some.injEq] at hc
      subst hc
      exact single _ h (by simp only [RepX, Rep] at h; obtain ⟨a, cap, vs, rfl, _⟩ := h; rfl)
    | ref cs =>
      simp only [cellsX, Option.some.injEq] at hc
      subst hc
      exact single _ h (by simp only [RepX, Rep] at h; obtain ⟨a, cap, vs, rfl, _⟩ := h; rfl)
    | fn f cs =>
      simp only [cellsX, Option.some.injEq] at hc
      subst hc
      exact single _ h (by simp only [RepX, Rep] at h; obtain ⟨vs, rfl, _⟩ := h; rfl)
  | nil =>
    simp only [cellsX, Option.some.injEq] at hc
    subst hc
    exact single _ h (by simp only [RepX] at h; subst h; rfl)
  | own t e z cs n =>
    simp only [cellsX, Option.some.injEq] at hc
    subst hc
    exact single _ h (by simp only [RepX, Rep] at h; obtain ⟨_, _, a, cap, vs, rfl, _⟩ := h; rfl)
  | ptr r off =>
    simp only [cellsX, Option.some.injEq] at hc
    subst hc
    exact single _ h (by simp only [RepX] at h; obtain ⟨b, _, rfl⟩ := h; rfl)
  | mp r =>
    simp only [cellsX, Option.some.injEq] at hc
    subst hc
    exact single _ h (by simp only [RepX] at h; obtain ⟨b, _, rfl⟩ := h; rfl)
  | clo f caps =>
    simp only [cellsX, Option.some.injEq] at hc
    subst hc
    exact single _ h (by simp only [RepX] at h; obtain ⟨b, rfl, _⟩ := h; rfl)
  | agg xs =>
    simp only [cellsX, Option.some.injEq] at hc
    subst hc
    simp only [RepX] at h
    obtain ⟨vs, rfl, h1, hl⟩ := h
    exact ⟨by simpa [Value.cells] using hl, by simpa [Value.cells] using h1⟩
  | tup xs => simp [cellsX] at hc

/-- Names of objects that stand for the same blocks. -/
structure Ren (σ : Nat → Option Nat) (ρ : Tk → Option Tk) (k k' : Know) (ow ow' : Own) : Prop where
  m : k.m.le k'.m
  μ : ∀ r b r', k.μ r = some b → σ r = some r' → k'.μ r' = some b
  ow : ∀ t p t', ow t = some p → ρ t = some t' → ow' t' = some p

theorem RepX.tr {σ : Nat → Option Nat} {ρ : Tk → Option Tk} {k k' : Know} {ow ow' : Own} (h : Ren σ ρ k k' ow ow') : ∀ (x : X) (v : Value), RepX k ow x v → RepX k' ow' (x.tr σ ρ) v :=
  X.rec (motive_1 := fun x => ∀ v, RepX k ow x v → RepX k' ow' (x.tr σ ρ) v) (motive_2 := fun xs => ∀ vs, RepXs k ow xs vs → RepXs k' ow' (X.trs σ ρ xs) vs)
    (fun c v hh => by simp only [RepX, X.tr] at hh ⊢; exact Rep.mono h.m _ _ hh)
    (fun v hh => by simpa only [RepX, X.tr] using hh)
    (fun t e z cs n v hh => by
      simp only [RepX, X.tr] at hh ⊢
      split
      · rename_i t' ht
        simp only [RepX]
        exact ⟨h.ow _ _ _ hh.1 ht, hh.2.1, Rep.mono h.m _ _ hh.2.2⟩
      · simp only [RepX]; exact Rep.mono h.m _ _ hh.2.2)
    (fun r off v hh => by
      simp only [RepX, X.tr] at hh ⊢
      obtain ⟨b, hb, hv⟩ := hh
      split
      · rename_i r' hr; simp only [RepX]; exact ⟨b, h.μ _ _ _ hb hr, hv⟩
      · simp [RepX, Rep])
    (fun r v hh => by
      simp only [RepX, X.tr] at hh ⊢
      obtain ⟨b, hb, hv⟩ := hh
      split
      · rename_i r' hr; simp only [RepX]; exact ⟨b, h.μ _ _ _ hb hr, hv⟩
      · simp [RepX, Rep])
    (fun f xs ih v hh => by simp only [RepX, X.tr] at hh ⊢; obtain ⟨vs, hv, hl⟩ := hh; exact ⟨vs, hv, ih _ hl⟩)
    (fun xs ih v hh => by simp only [RepX, X.tr] at hh ⊢; obtain ⟨vs, hv, h1, hl⟩ := hh; exact ⟨vs, hv, h1, ih _ hl⟩)
    (fun xs ih v hh => by simp only [RepX, X.tr] at hh ⊢; obtain ⟨vs, hv, hl⟩ := hh; exact ⟨vs, hv, ih _ hl⟩)
    (fun vs hh => by simpa only [RepXs, X.trs] using hh)
    (fun x xs ih1 ih2 vs hh => by simp only [RepXs, X.trs] at hh ⊢; obtain ⟨v, r, hv, h1, h2⟩ := hh; exact ⟨v, r, hv, ih1 _ h1, ih2 _ h2⟩)

theorem RepXs.tr {σ : Nat → Option Nat} {ρ : Tk → Option Tk} {k k' : Know} {ow ow' : Own} (h : Ren σ ρ k k' ow ow') : ∀ (xs : List X) (vs : List Value), RepXs k ow xs vs → RepXs k' ow' (X.trs σ ρ xs) vs
  | [], vs, hh => by simpa only [RepXs, X.trs] using hh
  | x :: xs, vs, hh => by
    simp only [RepXs, X.trs] at hh ⊢
    obtain ⟨v, r, hv, h1, h2⟩ := hh
    exact ⟨v, r, hv, RepX.tr h _ _ h1, RepXs.tr h _ _ h2⟩

theorem pos_spec {α : Type} [DecidableEq α] : ∀ {l : List α} {a : α} {i : Nat}, pos l a = some i → l[i]? = some a
  | [], a, i, h => by simp [pos] at h
  | b :: l, a, i, h => by
    simp only [pos] at h
    split at h
    · rename_i e
      simp only [Option.some.injEq] at h
      subst h; subst e
      rfl
    · simp only [Option.map_eq_some_iff] at h
      obtain ⟨j, hj, rfl⟩ := h
      simpa using pos_spec hj
theorem pos_none {α : Type} [DecidableEq α] : ∀ {l : List α} {a : α}, pos l a = none → a ∉ l
  | [], a, _ => by simp
  | b :: l, a, h => by
    simp only [pos] at h
    split at h
    · cases h
    · rename_i e
      simp only [Option.map_eq_none_iff] at h
      have := pos_none h
      simp only [List.mem_cons, not_or]
      exact ⟨fun e' => e e'.symm, this⟩

theorem nub_nodup {α : Type} [DecidableEq α] : ∀ (l seen : List α), seen.Nodup → (nub l seen).Nodup
  | [], seen, h => h
  | a :: l, seen, h => by
    simp only [nub]
    split
    · exact nub_nodup l seen h
    · rename_i hn
      refine nub_nodup l _ ?_
      rw [List.nodup_append]
      exact ⟨h, by simp, fun x hx y hy => by simp at hy; subst hy; exact fun e => hn (e ▸ hx)⟩

theorem reach_nodup (objs : List Ob) : ∀ (n : Nat) (todo seen : List Nat), seen.Nodup → (reach objs n todo seen).Nodup
  | 0, _, seen, h => h
  | _ + 1, [], seen, h => h
  | n + 1, r :: todo, seen, h => by
    simp only [reach]
    split
    · exact reach_nodup objs n todo seen h
    · rename_i hn
      refine reach_nodup objs n _ _ ?_
      rw [List.nodup_append]
      exact ⟨h, by simp, fun x hx y hy => by simp at hy; subst hy; exact fun e => hn (e ▸ hx)⟩

theorem reach_front (objs : List Ob) : ∀ (n : Nat) (todo seen : List Nat), ∃ q, reach objs n todo seen = seen ++ q
  | 0, _, seen => ⟨[], by simp [reach]⟩
  | _ + 1, [], seen => ⟨[], by simp [reach]⟩
  | n + 1, r :: todo, seen => by
    simp only [reach]
    split
    · exact reach_front objs n todo seen
    · obtain ⟨q, hq⟩ := reach_front objs n (((objs[r]?).map Ob.refs).getD [] ++ todo) (seen ++ [r])
      exact ⟨r :: q, by rw [hq]; simp⟩

end Go.Pe
namespace Go.Pe
open Go.RowKit

/-- What is given of the program's own tables: a fact on memory that hangs on some blocks alone. -/
structure GP where
  holds : World → Prop
  blk : Nat → Prop
  keep : ∀ w w', holds w → (∀ b, blk b → w'.heap[b]? = w.heap[b]?) → holds w'

/-- What stands fast while a call runs: what is given of tables; what it was told of memory; the blocks that it may write on. -/
structure Base where
  G : GP
  m : Mem
  mod : Nat → Prop

/-- All but some blocks is as it was; there may be more. -/
structure Keeps (M : Nat → Prop) (w w' : World) : Prop where
  os : w'.os = w.os
  tape : w'.tape = w.tape
  output : w'.output = w.output
  size : w.heap.size ≤ w'.heap.size
  block : ∀ b, b < w.heap.size → ¬ M b → w'.heap[b]? = w.heap[b]?

theorem Keeps.refl (M : Nat → Prop) (w : World) : Keeps M w w := ⟨rfl, rfl, rfl, Nat.le_refl _, fun _ _ _ => rfl⟩
theorem Keeps.trans {M : Nat → Prop} {a b c : World} (h : Keeps M a b) (h' : Keeps M b c) : Keeps M a c :=
  ⟨h'.os.trans h.os, h'.tape.trans h.tape, h'.output.trans h.output, Nat.le_trans h.size h'.size, fun x hx hm => (h'.block x (Nat.lt_of_lt_of_le hx h.size) hm).trans (h.block x hx hm)⟩
theorem Keeps.below {M : Nat → Prop} {w w' : World} (h : Below w.heap.size w w') : Keeps M w w' := ⟨h.os, h.tape, h.output, h.size, fun b hb _ => h.block b hb⟩
/-- The call's own blocks. -/
def Mine (M : Nat → Prop) (w0 : World) (b : Nat) : Prop := w0.heap.size ≤ b ∨ M b

/-- What an object of the call's own is in memory: block b. -/
def ObRep (k : Know) (ow : Own) (w : World) (b : Nat) : Ob → Prop
  | .var ty xs => ∃ (vs : List Value), w.heap[b]? = some (.cells vs.toArray ty (0, 0)) ∧ (∀ u ∈ vs, u.oneCell' = true) ∧ RepXs k ow xs vs
  | .map es => ∃ (ms : Array MapEntry) (cl : Nat), w.heap[b]? = some (.map ms cl) ∧ ms.toList.map (·.key) = es.map (·.1) ∧ RepL k.m (es.map (·.2)) (ms.toList.map (·.val))

/-- Objects, rights, and memory: what was there when the call began (w0) is as it was. -/
structure Hp (M0 : Base) (k : Know) (ow : Own) (w0 w : World) (objs : List Ob) : Prop where
  good : M0.G.holds w0 ∧ ∀ b, M0.G.blk b → b < w0.heap.size ∧ ¬ M0.mod b
  below : Keeps M0.mod w0 w
  mem : ∀ b o v, k.m b o = some v → w.cell? ⟨b, o, none⟩ = some v ∧ v.oneCell' = true
  obj : ∀ r ob, objs[r]? = some ob → ∃ b, k.μ r = some b ∧ Mine M0.mod w0 b ∧ b < w.heap.size ∧ (∀ o, k.m b o = none) ∧ ObRep k ow w b ob
  dom : ∀ r b, k.μ r = some b → r < objs.length
  inj : ∀ r r' b, k.μ r = some b → k.μ r' = some b → r = r'
  tok : ∀ t v e z n, ow t = some (v, e, z, n) → (∃ xs, w.ownsRow 0 e z v n xs) ∧ ∀ g, v.ownBlock = some g → Mine M0.mod w0 g ∧ (∀ o, n * z ≤ o → k.m g o = none) ∧ ∀ r, k.μ r ≠ some g
  tokne : ∀ t t' v e z n v' e' z' n', ow t = some (v, e, z, n) → ow t' = some (v', e', z', n') → t ≠ t' → ∀ g, v.ownBlock = some g → v'.ownBlock ≠ some g
  m0 : ∀ b o v, k.m b o = some v → b < w0.heap.size → ¬ M0.mod b → M0.m b o = some v

/-- A right is an old one, or one of these operations'. -/
def Tk.older (clk : Nat) (done : Nat → Prop) : Tk → Prop
  | .nm c ix _ => c < clk ∨ (c = clk ∧ done ix)
  | .cell .. => True

/-- A state, and memory. -/
structure Sim (M0 : Base) (k : Know) (ow : Own) (done : Nat → Prop) (w0 w : World) (N : Nat) (s : S) (tmps : Array Value) : Prop extends Hp M0 k ow w0 w s.objs where
  size : tmps.size = N
  fr : ∀ j, RepX k ow (s.fr j) (tmps.getD j undef)
  fresh : ∀ t p, ow t = some p → t.older s.clk done
  cells : ∀ r off p, ow (.cell r off) = some p → r < s.objs.length

theorem mem_lt {k : Know} {w : World} (h : ∀ b o v, k.m b o = some v → w.cell? ⟨b, o, none⟩ = some v ∧ v.oneCell' = true) {b o : Nat} {v : Value} (hm : k.m b o = some v) : b < w.heap.size :=
  World.block_lt_of_cell? (a := ⟨b, o, none⟩) w (h _ _ _ hm).1

theorem ownsRow_keep {w w' : World} {B e z : Nat} {v : Value} {n : Nat} {xs : List Value} (h : ∀ g, v.ownBlock = some g → g < w.heap.size → w'.heap[g]? = w.heap[g]?) (ho : w.ownsRow B e z v n xs) : w'.ownsRow B e z v n xs := by
  refine ⟨ho.1, ?_⟩
  rcases ho.2 with h2 | ⟨g, cap, cur, hv, hg, hh, r⟩
  · exact .inl h2
  · exact .inr ⟨g, cap, cur, hv, hg, by rw [h g (by rw [hv]; rfl) (Array.getElem?_eq_some_iff.1 hh).1]; exact hh, r⟩

theorem ownsRow_lt {w : World} {B e z : Nat} {v : Value} {n : Nat} {xs : List Value} (ho : w.ownsRow B e z v n xs) {g : Nat} (hg : v.ownBlock = some g) : g < w.heap.size := (ho.lt g hg).2

theorem ObRep.keep {k : Know} {ow : Own} {w w' : World} {b : Nat} {ob : Ob} (hb : w'.heap[b]? = w.heap[b]?) (h : ObRep k ow w b ob) : ObRep k ow w' b ob := by
  cases ob <;> simpa only [ObRep, hb] using h

theorem ObRep.mono {k k' : Know} {ow ow' : Own} {w : World} {b : Nat} {ob : Ob} (hk : k.le k') (ho : ow.sub ow') (h : ObRep k ow w b ob) : ObRep k' ow' w b ob := by
  cases ob with
  | var ty xs =>
    obtain ⟨vs, h1, h2, h3⟩ := h
    exact ⟨vs, h1, h2, RepXs.mono hk ho _ _ h3⟩
  | map es =>
    obtain ⟨ms, cl, h1, h2, h3⟩ := h
    exact ⟨ms, cl, h1, h2, RepL.mono hk.1 _ _ h3⟩

theorem ObRep.tr {σ : Nat → Option Nat} {ρ : Tk → Option Tk} {k k' : Know} {ow ow' : Own} (hn : Ren σ ρ k k' ow ow') {w : World} {b : Nat} {ob : Ob} (h : ObRep k ow w b ob) : ObRep k' ow' w b (ob.tr σ ρ) := by
  cases ob with
  | var ty xs =>
    obtain ⟨vs, h1, h2, h3⟩ := h
    exact ⟨vs, h1, h2, RepXs.tr hn _ _ h3⟩
  | map es =>
    obtain ⟨ms, cl, h1, h2, h3⟩ := h
    exact ⟨ms, cl, h1, h2, RepL.mono hn.m _ _ h3⟩

theorem ObRep.drop {k : Know} {ow : Own} {w : World} {b : Nat} {ob : Ob} (t : Tk) (h : ObRep k ow w b ob) : ObRep k (ow.del t) w b (ob.drop t) := by
  cases ob with
  | var ty xs =>
    obtain ⟨vs, h1, h2, h3⟩ := h
    exact ⟨vs, h1, h2, RepXs.drop t _ _ h3⟩
  | map es => exact h

section
variable {M0 : Base} {k : Know} {ow : Own} {done : Nat → Prop} {w0 w w' : World} {N : Nat} {s : S} {tmps : Array Value} {objs : List Ob}

theorem Hp.lt (h : Hp M0 k ow w0 w objs) {r b : Nat} (hr : k.μ r = some b) : Mine M0.mod w0 b ∧ b < w.heap.size ∧ ∀ o, k.m b o = none := by
  obtain ⟨b', h2, h3, h4, h5, _⟩ := h.obj r _ (List.getElem?_eq_getElem (h.dom r b hr))
  obtain rfl := Option.some.inj (h2.symm.trans hr)
  exact ⟨h3, h4, h5⟩
theorem Hp.tlt (h : Hp M0 k ow w0 w objs) {t : Tk} {v : Value} {e z n : Nat} (ht : ow t = some (v, e, z, n)) {g : Nat} (hg : v.ownBlock = some g) : Mine M0.mod w0 g ∧ g < w.heap.size := by
  obtain ⟨⟨xs, h1⟩, h2⟩ := h.tok t v e z n ht
  exact ⟨(h2 g hg).1, ownsRow_lt h1 hg⟩
/-- What is given of tables holds still. -/
theorem Hp.table (h : Hp M0 k ow w0 w objs) : M0.G.holds w := M0.G.keep w0 w h.good.1 fun b hb => h.below.block b (h.good.2 b hb).1 (h.good.2 b hb).2

/-- Memory that only grows. -/
theorem Hp.grow (h : Hp M0 k ow w0 w objs) (hb : Below w.heap.size w w') : Hp M0 k ow w0 w' objs where
  good := h.good
  below := h.below.trans (.below hb)
  mem := fun b o v hm => by
    obtain ⟨h1, h2⟩ := h.mem b o v hm
    exact ⟨(hb.cell (p := ⟨b, o, none⟩) (mem_lt h.mem hm)).trans h1, h2⟩
  obj := fun r ob hr => by
    obtain ⟨b, h1, h2, h3, h4, h5⟩ := h.obj r ob hr
    exact ⟨b, h1, h2, Nat.lt_of_lt_of_le h3 hb.size, h4, h5.keep (hb.block b h3)⟩
  dom := h.dom
  inj := h.inj
  tok := fun t v e z n ht => by
    obtain ⟨⟨xs, h1⟩, h2⟩ := h.tok t v e z n ht
    exact ⟨⟨xs, ownsRow_keep (fun g _ hg => hb.block g hg) h1⟩, h2⟩
  tokne := h.tokne
  m0 := h.m0
theorem Sim.grow (h : Sim M0 k ow done w0 w N s tmps) (hb : Below w.heap.size w w') : Sim M0 k ow done w0 w' N s tmps :=
  { h.toHp.grow hb with size := h.size, fr := h.fr, fresh := h.fresh, cells := h.cells }

/-- A value laid into a slot. -/
theorem Sim.put (h : Sim M0 k ow done w0 w N s tmps) (d : Option Nat) (hd : ∀ j, d = some j → j < N) {x : X} {v : Value} (hx : RepX k ow x v) :
    Sim M0 k ow done w0 w N (s.put d x) (Act.put ⟨tmps, []⟩ d v).tmps := by
  cases d with
  | none => exact h
  | some d =>
    have hlt := hd d rfl
    refine { h.toHp with size := by simp [Act.put, h.size], fr := fun j => ?_, fresh := h.fresh, cells := h.cells }
    simp only [S.put, upd, Act.put]
    by_cases hj : j = d
    · subst hj
      simp only [if_true]
      have : (tmps.setIfInBounds j v).getD j undef = v := by simp [h.size, hlt]
      rw [this]
      exact hx
    · rw [if_neg hj]
      have : (tmps.setIfInBounds d v).getD j undef = tmps.getD j undef := by
        simp [Array.getElem?_setIfInBounds_ne (Ne.symm hj)]
      rw [this]
      exact h.fr j

/-- A right given up. -/
theorem Sim.del (h : Sim M0 k ow done w0 w N s tmps) (t : Tk) : Sim M0 k (ow.del t) done w0 w N (s.drop (some t)) tmps where
  good := h.good
  size := h.size
  below := h.below
  fr := fun j => RepX.drop t _ _ (h.fr j)
  mem := h.mem
  obj := fun r ob hr => by
    simp only [S.drop, List.getElem?_map, Option.map_eq_some_iff] at hr
    obtain ⟨ob', h1, rfl⟩ := hr
    obtain ⟨b, h2, h3, h4, h5, h6⟩ := h.obj r ob' h1
    exact ⟨b, h2, h3, h4, h5, h6.drop t⟩
  dom := fun r b hr => by simpa [S.drop] using h.dom r b hr
  inj := h.inj
  tok := fun t' v e z n ht => by
    simp only [Own.del] at ht
    split at ht
    · cases ht
    · exact h.tok t' v e z n ht
  tokne := fun t t' v e z n v' e' z' n' ht ht' => by
    simp only [Own.del] at ht ht'
    split at ht
    · cases ht
    · split at ht'
      · cases ht'
      · exact h.tokne t t' v e z n v' e' z' n' ht ht'
  fresh := fun t' p ht => by
    simp only [Own.del] at ht
    split at ht
    · cases ht
    · exact h.fresh t' p ht
  cells := fun r off p ht => by
    simp only [Own.del] at ht
    split at ht
    · cases ht
    · simpa [S.drop] using h.cells r off p ht
  m0 := h.m0

/-- A new right. -/
def Own.add (ow : Own) (t : Tk) (p : Value × Nat × Nat × Nat) : Own := fun t' => if t' = t then some p else ow t'

theorem Own.sub_add {ow : Own} {t : Tk} {p : Value × Nat × Nat × Nat} (h : ow t = none) : ow.sub (ow.add t p) := fun t' q hq => by
  simp only [Own.add]
  split
  · rename_i e; subst e; rw [h] at hq; cases hq
  · exact hq

theorem Sim.add (h : Sim M0 k ow done w0 w N s tmps) {c ix i : Nat} {v : Value} {e z n : Nat} {xs : List Value} (hn : ow (.nm c ix i) = none)
    (hrow : w.ownsRow 0 e z v n xs) (hm : ∀ g, v.ownBlock = some g → Mine M0.mod w0 g ∧ (∀ o, n * z ≤ o → k.m g o = none) ∧ ∀ r, k.μ r ≠ some g)
    (hne : ∀ t' v' e' z' n', ow t' = some (v', e', z', n') → ∀ g, v.ownBlock = some g → v'.ownBlock ≠ some g)
    (hf : c < s.clk ∨ (c = s.clk ∧ done ix)) : Sim M0 k (ow.add (.nm c ix i) (v, e, z, n)) done w0 w N s tmps where
  good := h.good
  size := h.size
  below := h.below
  fr := fun j => RepX.mono (Know.le_refl k) (Own.sub_add hn) _ _ (h.fr j)
  mem := h.mem
  obj := fun r ob hr => by
    obtain ⟨b, h2, h3, h4, h5, h6⟩ := h.obj r ob hr
    exact ⟨b, h2, h3, h4, h5, h6.mono (Know.le_refl k) (Own.sub_add hn)⟩
  dom := h.dom
  inj := h.inj
  tok := fun t' v' e' z' n' ht => by
    simp only [Own.add] at ht
    split at ht
    · simp only [Option.some.injEq, Prod.mk.injEq] at ht
      obtain ⟨rfl, rfl, rfl, rfl⟩ := ht
      exact ⟨⟨xs, hrow⟩, hm⟩
    · exact h.tok t' v' e' z' n' ht
  tokne := fun t1 t2 v1 e1 z1 n1 v2 e2 z2 n2 h1 h2 hne' g hg hg' => by
    simp only [Own.add] at h1 h2
    split at h1
    · rename_i e1'
      simp only [Option.some.injEq, Prod.mk.injEq] at h1
      obtain ⟨rfl, rfl, rfl, rfl⟩ := h1
      split at h2
      · rename_i e2'; exact hne' (e1'.trans e2'.symm)
      · exact hne _ _ _ _ _ h2 g hg hg'
    · split at h2
      · simp only [Option.some.injEq, Prod.mk.injEq] at h2
        obtain ⟨rfl, rfl, rfl, rfl⟩ := h2
        exact hne _ _ _ _ _ h1 g hg' hg
      · exact h.tokne t1 t2 _ _ _ _ _ _ _ _ h1 h2 hne' g hg hg'
  fresh := fun t' p ht => by
    simp only [Own.add] at ht
    split at ht
    · rename_i e1; subst e1; exact hf
    · exact h.fresh t' p ht
  cells := fun r off p ht => by
    simp only [Own.add] at ht
    split at ht
    · rename_i e1; cases e1
    · exact h.cells r off p ht
  m0 := h.m0

theorem Sim.more (h : Sim M0 k ow done w0 w N s tmps) {done' : Nat → Prop} (hd : ∀ i, done i → done' i) : Sim M0 k ow done' w0 w N s tmps :=
  { h.toHp with
    size := h.size
    fr := h.fr
    cells := h.cells
    fresh := fun t p ht => by
      have := h.fresh t p ht
      cases t with
      | nm c ix i => exact this.imp id (fun ⟨a, b⟩ => ⟨a, hd _ b⟩)
      | cell r off => trivial }

/-- A region's end: its names are old. -/
theorem Sim.tick (h : Sim M0 k ow done w0 w N s tmps) : Sim M0 k ow (fun _ => False) w0 w N { s with clk := s.clk + 1 } tmps :=
  { h.toHp with
    size := h.size
    fr := h.fr
    cells := h.cells
    fresh := fun t p ht => by
      have := h.fresh t p ht
      cases t with
      | nm c ix i =>
        refine .inl ?_
        rcases this with h | ⟨h, _⟩ <;> simp only [] <;> omega
      | cell r off => trivial }

/-- An operand. -/
theorem ofVal_rep (k : Know) (ow : Own) (v : Value) : RepX k ow (ofVal v) v := by
  unfold ofVal
  split <;> simp [RepX, Rep, RepL, Value.oneCell']

theorem Sim.ev (h : Sim M0 k ow done w0 w N s tmps) (x : Operand) : RepX k ow (s.ev x) ((⟨tmps, []⟩ : Act).eval x) := by
  cases x with
  | tmp t => exact h.fr t
  | const v => exact ofVal_rep k ow v
  | func f => simp [S.ev, Act.eval, RepX, Rep, RepL]
  | global g => simp [S.ev, RepX, Rep]

/-- Rights under other names: so that no two become one. -/
def Own.re (ρ : Tk → Option Tk) (ow ow' : Own) : Prop :=
  (∀ t p t', ow t = some p → ρ t = some t' → ow' t' = some p) ∧ (∀ t' p, ow' t' = some p → ∃ t, ow t = some p ∧ ρ t = some t')

theorem Sim.tr (h : Sim M0 k ow done w0 w N s tmps) {ρ : Tk → Option Tk} {ow' : Own} (hr : ow.re ρ ow') (hf : ∀ t p, ow' t = some p → t.older s.clk done) (hc : ∀ r off p, ow' (.cell r off) = some p → r < s.objs.length) :
    Sim M0 k ow' done w0 w N (s.tr ρ) tmps :=
  have hn : Ren some ρ k k ow ow' := ⟨fun _ _ _ h => h, fun r b r' hr he => by cases he; exact hr, hr.1⟩
  { good := h.good
    size := h.size
    below := h.below
    fr := fun j => RepX.tr hn _ _ (h.fr j)
    mem := h.mem
    obj := fun r ob hr => by
      simp only [S.tr, List.getElem?_map, Option.map_eq_some_iff] at hr
      obtain ⟨ob', h1, rfl⟩ := hr
      obtain ⟨b, h2, h3, h4, h5, h6⟩ := h.obj r ob' h1
      exact ⟨b, h2, h3, h4, h5, h6.tr hn⟩
    dom := fun r b hr => by simpa [S.tr] using h.dom r b hr
    inj := h.inj
    tok := fun t' v e z n ht => by
      obtain ⟨t, g1, _⟩ := hr.2 _ _ ht
      exact h.tok t v e z n g1
    tokne := fun t t' v e z n v' e' z' n' ht ht' hne => by
      obtain ⟨a, g1, g2⟩ := hr.2 _ _ ht
      obtain ⟨b, g3, g4⟩ := hr.2 _ _ ht'
      exact h.tokne a b v e z n v' e' z' n' g1 g3 (fun e => hne (by subst e; rw [g2] at g4; exact Option.some.inj g4))
    fresh := hf
    cells := fun r off p ht => by simpa [S.tr] using hc r off p ht
    m0 := h.m0 }
end
end Go.Pe

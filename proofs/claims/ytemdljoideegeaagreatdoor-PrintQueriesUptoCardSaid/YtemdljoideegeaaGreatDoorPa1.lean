/-
  An abstract machine for Go code over plain data: a state and the memory that it stands for. Conditions: none.
-/
import Derived.Shelf.LaysM
import Derived.Shelf.Strconv.Itoa3
import Derived.Shelf.Strings.Search3
import Derived.Shelf.Strings.Replace
import Derived.Shelf.Strings.OnBuilder
import Derived.Shelf.Small.Wraps
import Derived.Ground.GgwProg
import Derived.Shelf.Strings.FuncGrows
import Derived.Test.YtemdljoideegeaaGreatDoorProg
import Derived.WalkKit
import Derived.Below
import Derived.Still
import Derived.Maps.AppendAt
set_option linter.defProp false
set_option linter.unusedSectionVars false
set_option maxRecDepth 100000
set_option maxHeartbeats 64000000
theorem Go.ai {a b:Prop} (x:a) (y:b):a∧b:=⟨x,y⟩
namespace Go
def aaI:=@Array.any_eq_true'
def ae4:=@Array.ext'
def aa7:=@Array.getD_eq_getD_getElem?
def jv:=@Array.getElem?_modify
def fy:=@Array.length_toList
def acq:=@Array.mem_of_getElem?
def iG:=@Array.setIfInBounds_comm
def d9:=@Array.toArray_toList
def iR:=@Array.toList_append
def acp:=@Array.toList_map
def dq:=@Bool.and_assoc
def afl:=@Bool.and_comm
def ab:=@Bool.and_eq_true
def cP:=@Bool.and_false
def afk:=@Bool.and_self
def dQ:=@Bool.and_true
def aa2:=@Bool.eq_false_iff
def ca:=@Bool.eq_iff_iff
def aZ:=@Bool.false_and
def aW:=@Bool.false_eq_true
def dl:=@Bool.false_or
def cm:=@Bool.not_eq_true'
def eh:=@Bool.not_false
def dU:=@Bool.not_not
def fx:=@Bool.not_true
def cA:=@Bool.or_eq_true
def e7:=@Bool.or_false
def adU:=@Bool.or_self
def fg:=@Bool.or_true
def aX:=@Bool.true_and
def abT:=@Bool.true_eq_false
def dw:=@Bool.true_or
def cZ:=@Iff.rfl
def iO:=@Int.eq_ofNat_of_zero_le
def aaH:=@Int.natCast_nonneg
def dm:=@Int.toNat_natCast
def acf:=@List.all_cons
def bR:=@List.all_eq_true
def ff:=@List.all_nil
def afj:=@List.any_cons
def am:=@List.append_assoc
def al8:=@List.append_eq
def cE:=@List.append_nil
def aiS:=@List.append_toArray
def abF:=@List.cons.injEq
def bt:=@List.cons_append
def ac7:=@List.drop_drop
def bM:=@List.drop_eq_getElem_cons
def aw:=@List.drop_length
def fv:=@List.drop_of_length_le
def aaq:=@List.drop_succ_cons
def aeJ:=@List.drop_take
def ac6:=@List.drop_zero
def aJ:=@List.eq_nil_of_length_eq_zero
def ab6:=@List.ext_getElem?
def abv:=@List.extract_eq_take_drop
def fC:=@List.flatten_cons
def abh:=@List.flatten_nil
def dW:=@List.getD_eq_getElem?_getD
def dA:=@List.getElem?_append_left
def gm:=@List.getElem?_append_right
def dK:=@List.getElem?_cons_succ
def dJ:=@List.getElem?_cons_zero
def jl:=@List.getElem?_drop
def bK:=@List.getElem?_eq_getElem
def dB:=@List.getElem?_eq_none
def fA:=@List.getElem?_map
def aeu:=@List.getElem?_toArray
def d8:=@List.getElem_cons_succ
def dS:=@List.getElem_cons_zero
def adT:=@List.getElem_map
def ay:=@List.getElem_mem
def av:=@List.length_append
def aB:=@List.length_cons
def i7:=@List.length_drop
def gP:=@List.length_map
def ce:=@List.length_nil
def ju:=@List.length_singleton
def aaj:=@List.length_take
def aeI:=@List.mapM_cons
def fV:=@List.map_append
def gw:=@List.map_congr_left
def aV:=@List.map_cons
def adv:=@List.map_drop
def ii:=@List.map_map
def bC:=@List.map_nil
def dF:=@List.mem_append
def acE:=@List.mem_append_left
def cY:=@List.mem_cons
def iC:=@List.mem_cons_of_mem
def fP:=@List.mem_of_getElem?
def fu:=@List.mem_of_mem_drop
def iB:=@List.mem_of_mem_take
def bw:=@List.nil_append
def acQ:=@List.nodup_cons
def aa1:=@List.nodup_nil
def aai:=@List.not_mem_nil
def aaG:=@List.set_cons_succ
def gS:=@List.size_toArray
def bU:=@List.sum_cons
def cU:=@List.sum_nil
def ac5:=@List.take_left
def hY:=@List.take_length
def jf:=@List.take_of_length_le
def abC:=@List.take_succ_cons
def aaa:=@List.take_succ_eq_append_getElem
def ahB:=@List.take_zero
def abB:=@List.toList_toArray
def eZ:=@Nat.add_assoc
def ig:=@Nat.add_comm
def aet:=@Nat.add_mul
def aaT:=@Nat.add_zero
def fM:=@Nat.eq_zero_or_pos
def jo:=@Nat.le_max_left
def iZ:=@Nat.le_max_right
def cT:=@Nat.le_of_ble_eq_true
def aM:=@Nat.le_refl
def dv:=@Nat.le_succ
def aaS:=@Nat.le_trans
def au:=@Nat.lt_irrefl
def fq:=@Nat.lt_of_lt_of_le
def ap:=@Nat.lt_or_ge
def adS:=@Nat.lt_succ_self
def adF:=@Nat.lt_trichotomy
def jt:=@Nat.mul_one
def agE:=@Nat.mul_pos
def gO:=@Nat.not_lt_zero
def afZ:=@Nat.sub_self
def adR:=@Nat.sub_zero
def adQ:=@Nat.succ_mul
def abg:=@Nat.succ_ne_zero
def bd:=@Nat.zero_add
def fj:=@Nat.zero_le
def acP:=@Nat.zero_lt_one
def afY:=@Nat.zero_mul
def d5:=@Ne.symm
def cS:=@Option.bind_eq_some_iff
def dG:=@Option.bind_some
def aco:=@Option.getD_none
def agD:=@Option.getD_some
def abJ:=@Option.isSome_iff_exists
def aP:=@Option.map_eq_some_iff
def bH:=@Option.map_some
def bn:=@Option.some.inj
def ae:=@Option.some.injEq
def bf:=@Prod.mk.injEq
def aaf:=@and_assoc
def abY:=@and_comm
def bJ:=@and_false
def jn:=@and_left_comm
def db:=@and_self
def gz:=@and_true
def fQ:=@beq_iff_eq
def ae3:=@bne_iff_ne
def fO:=@decide_eq_decide
def bP:=@decide_eq_false
def iM:=@decide_eq_false_iff_not
def cy:=@decide_eq_true
def ar:=@decide_eq_true_eq
def bE:=@decide_false
def bG:=@decide_true
def ajs:=@dif_neg
def ahk:=@dif_pos
def aO:=@eq_false
def ag1:=@eq_iff_iff
def aa:=@eq_true
def bD:=@false_and
def fz:=@false_or
def aQ:=@if_false
def aj:=@if_neg
def aE:=@if_pos
def aA:=@if_true
def abt:=@iff_false
def ct:=@ne_eq
def jw:=@not_false_eq_true
def acn:=@not_or
def aa0:=@not_true_eq_false
def gR:=@of_decide_eq_true
def fd:=@or_false
def bm:=@or_self
def br:=@or_true
def cX:=@true_and
def bo:=@true_or
def cI:=ai (ai @fV.{0,0} (ai @aV.{0,0} @bC.{0,0})) (ai (ai @bt.{0} @bw.{0}) (ai @am.{0} @cE.{0}))
def aR:=ai @av.{0} (ai @aB.{0} @ce.{0})
def ch:=ai @bt.{0} @bw.{0}
def aJK:=ai @am.{0} @bt.{0}
def dN:=ai @aB.{0} @ce.{0}
def fp:=ai @al8.{0} @aiS.{0}
def dX:=ai @ae.{0} @bf.{0,0}
end Go
namespace Go.Proofs
open Go.Shelf
def Tryz.laysM171_ren:Go.Shelf.Ren:=⟨fun|171=>227|243=>255|246=>264|283=>273|284=>274|285=>275|286=>276|129=>283|317=>282|318=>284|319=>285|320=>286|337=>289|338=>290|n=>n,fun|3=>3|9=>9|2=>2|4=>4|171=>261|0=>0|53=>262|37=>91|5=>5|173=>265|212=>274|51=>275|20=>20|213=>276|46=>268|232=>281|233=>282|n=>n,fun|17=>3|18=>4|19=>5|n=>n⟩
theorem Tryz.laysM171:Go.Proofs.LaysM.n171 Tryz.prog Tryz.laysM171_ren:={
 mixed:=by kernel_rfl
 f129:=Tryz.func283.trans (congrArg some (by kernel_rfl))
 f171:=Tryz.func227.trans (congrArg some (by kernel_rfl))
 f243:=Tryz.func255.trans (congrArg some (by kernel_rfl))
 f246:=Tryz.func264.trans (congrArg some (by kernel_rfl))
 f283:=Tryz.func273.trans (congrArg some (by kernel_rfl))
 f284:=Tryz.func274.trans (congrArg some (by kernel_rfl))
 f285:=Tryz.func275.trans (congrArg some (by kernel_rfl))
 f286:=Tryz.func276.trans (congrArg some (by kernel_rfl))
 f317:=Tryz.func282.trans (congrArg some (by kernel_rfl))
 f318:=Tryz.func284.trans (congrArg some (by kernel_rfl))
 f319:=Tryz.func285.trans (congrArg some (by kernel_rfl))
 f320:=Tryz.func286.trans (congrArg some (by kernel_rfl))
 f337:=Tryz.func289.trans (congrArg some (by kernel_rfl))
 f338:=Tryz.func290.trans (congrArg some (by kernel_rfl))
 t0:=Tryz.underlying0
 a0:=Tryz.isAgg0
 z0:=Tryz.sizeOf0
 v0:=Tryz.zeroValue0
 t2:=Tryz.underlying2
 a2:=Tryz.isAgg2
 z2:=Tryz.sizeOf2
 v2:=Tryz.zeroValue2
 t3:=Tryz.underlying3
 a3:=Tryz.isAgg3
 z3:=Tryz.sizeOf3
 v3:=Tryz.zeroValue3
 t4:=Tryz.underlying4
 a4:=Tryz.isAgg4
 z4:=Tryz.sizeOf4
 v4:=Tryz.zeroValue4
 t5:=Tryz.underlying5
 a5:=Tryz.isAgg5
 z5:=Tryz.sizeOf5
 v5:=Tryz.zeroValue5
 t9:=Tryz.underlying9
 a9:=Tryz.isAgg9
 z9:=Tryz.sizeOf9
 v9:=Tryz.zeroValue9
 t20:=Tryz.underlying20
 a20:=Tryz.isAgg20
 z20:=Tryz.sizeOf20
 v20:=Tryz.zeroValue20
 t37:=Tryz.underlying91
 a37:=Tryz.isAgg91
 z37:=Tryz.sizeOf91
 v37:=Tryz.zeroValue91
 t46:=Tryz.underlying268
 a46:=Tryz.isAgg268
 z46:=Tryz.sizeOf268
 v46:=Tryz.zeroValue268
 t51:=Tryz.underlying275
 a51:=Tryz.isAgg275
 z51:=Tryz.sizeOf275
 v51:=Tryz.zeroValue275
 t53:=Tryz.underlying262
 a53:=Tryz.isAgg262
 z53:=Tryz.sizeOf262
 v53:=Tryz.zeroValue262
 t171:=Tryz.underlying261
 a171:=Tryz.isAgg261
 z171:=Tryz.sizeOf261
 v171:=Tryz.zeroValue261
 t173:=Tryz.underlying265
 a173:=Tryz.isAgg265
 z173:=Tryz.sizeOf265
 v173:=Tryz.zeroValue265
 t212:=Tryz.underlying274
 a212:=Tryz.isAgg274
 z212:=Tryz.sizeOf274
 v212:=Tryz.zeroValue274
 t213:=Tryz.underlying276
 a213:=Tryz.isAgg276
 z213:=Tryz.sizeOf276
 t232:=Tryz.underlying281
 a232:=Tryz.isAgg281
 z232:=Tryz.sizeOf281
 v232:=Tryz.zeroValue281
 t233:=Tryz.underlying282
 a233:=Tryz.isAgg282
 z233:=Tryz.sizeOf282
 v233:=Tryz.zeroValue282
 g17:=by kernel_rfl
 g18:=by kernel_rfl
 g19:=by kernel_rfl
 i0:=by kernel_rfl
 i2:=by kernel_rfl
 i3:=by kernel_rfl
 i4:=by kernel_rfl
 i5:=by kernel_rfl
 i9:=by kernel_rfl
 i20:=by kernel_rfl
 i37:=by kernel_rfl
 i46:=by kernel_rfl
 i51:=by kernel_rfl
 i53:=by kernel_rfl
 i171:=by kernel_rfl
 i173:=by kernel_rfl
 i212:=by kernel_rfl
 i232:=by kernel_rfl
 i233:=by kernel_rfl
 m17:=by kernel_rfl
 m18:=by kernel_rfl
 m19:=by kernel_rfl}
open Go.RowKit Go.Sort Go.Lib in
theorem Tryz.strconv_Itoa (n:Int) (h0:-9223372036854775808≤n) (h1:n≤9223372036854775807) (w:World) (htab:Lib.TabIs Tryz.prog w "internal/strconv.uint64pow10" .u64 Lib.pow10Tab) :
  Calls Tryz.prog 227 #[.int .i64 n] w fun e w'=>e=.returned (.string ⟨(Lib.itoa n).toArray⟩)∧∃ k os,w'=grow (w.drewN k) os:=Any.strconv_Itoa Tryz.laysM171 n h0 h1 w htab
def Tryz.lays144_ren:Go.Shelf.Ren:=⟨fun|144=>246|143=>258|219=>268|217=>278|225=>279|224=>280|267=>281|266=>287|314=>288|n=>n,fun|9=>9|4=>4|3=>3|5=>5|46=>268|146=>278|51=>275|n=>n,fun|1=>0|n=>n⟩
theorem Tryz.lays144:Go.Proofs.Lays.n144 Tryz.prog Tryz.lays144_ren:={
 mixed:=by kernel_rfl
 f143:=Tryz.func258.trans (congrArg some (by kernel_rfl))
 f144:=Tryz.func246.trans (congrArg some (by kernel_rfl))
 f217:=Tryz.func278.trans (congrArg some (by kernel_rfl))
 f219:=Tryz.func268.trans (congrArg some (by kernel_rfl))
 f224:=Tryz.func280.trans (congrArg some (by kernel_rfl))
 f225:=Tryz.func279.trans (congrArg some (by kernel_rfl))
 f266:=Tryz.func287.trans (congrArg some (by kernel_rfl))
 f267:=Tryz.func281.trans (congrArg some (by kernel_rfl))
 f314:=Tryz.func288.trans (congrArg some (by kernel_rfl))
 t3:=Tryz.underlying3
 a3:=Tryz.isAgg3
 z3:=Tryz.sizeOf3
 v3:=Tryz.zeroValue3
 t4:=Tryz.underlying4
 a4:=Tryz.isAgg4
 z4:=Tryz.sizeOf4
 v4:=Tryz.zeroValue4
 t5:=Tryz.underlying5
 a5:=Tryz.isAgg5
 z5:=Tryz.sizeOf5
 v5:=Tryz.zeroValue5
 t9:=Tryz.underlying9
 a9:=Tryz.isAgg9
 z9:=Tryz.sizeOf9
 v9:=Tryz.zeroValue9
 t46:=Tryz.underlying268
 a46:=Tryz.isAgg268
 z46:=Tryz.sizeOf268
 v46:=Tryz.zeroValue268
 t51:=Tryz.underlying275
 a51:=Tryz.isAgg275
 z51:=Tryz.sizeOf275
 v51:=Tryz.zeroValue275
 t146:=Tryz.underlying278
 a146:=Tryz.isAgg278
 z146:=Tryz.sizeOf278
 v146:=Tryz.zeroValue278
 g1:=by kernel_rfl}
open Go.RowKit Go.Lib in
theorem Tryz.strings_Contains (s sub:ByteArray) (m:Int) (w:World) (hs:s.size<4294967281) (hm:w.cell? ⟨0,0,none⟩=some (.int .i64 m)) :
  Calls Tryz.prog 246 #[.string s,.string sub] w fun e w'=>e=.returned (.bool (Lib.contains s.data.toList sub.data.toList))∧w'=w:=Any.strings_Contains Tryz.lays144 s sub m w hs hm
def Tryz.laysGw15_ren:Go.Shelf.Ren:=⟨fun|15=>223|20=>254|n=>n,fun|9=>9|23=>231|3=>3|4=>4|0=>0|21=>21|n=>n,fun|n=>n⟩
theorem Tryz.laysGw15:Go.Proofs.LaysGw.n15 Tryz.prog Tryz.laysGw15_ren:={
 mixed:=by kernel_rfl
 f15:=Tryz.func223.trans (congrArg some (by kernel_rfl))
 f20:=Tryz.func254.trans (congrArg some (by kernel_rfl))
 t0:=Tryz.underlying0
 a0:=Tryz.isAgg0
 z0:=Tryz.sizeOf0
 v0:=Tryz.zeroValue0
 i0:=by kernel_rfl
 t3:=Tryz.underlying3
 a3:=Tryz.isAgg3
 z3:=Tryz.sizeOf3
 v3:=Tryz.zeroValue3
 i3:=by kernel_rfl
 t4:=Tryz.underlying4
 a4:=Tryz.isAgg4
 z4:=Tryz.sizeOf4
 v4:=Tryz.zeroValue4
 i4:=by kernel_rfl
 t9:=Tryz.underlying9
 a9:=Tryz.isAgg9
 z9:=Tryz.sizeOf9
 v9:=Tryz.zeroValue9
 i9:=by kernel_rfl
 t21:=Tryz.underlying21
 a21:=Tryz.isAgg21
 z21:=Tryz.sizeOf21
 v21:=Tryz.zeroValue21
 i21:=by kernel_rfl
 t23:=Tryz.underlying231
 a23:=Tryz.isAgg231
 z23:=Tryz.sizeOf231
 v23:=Tryz.zeroValue231
 i23:=by kernel_rfl}
def Tryz.lays155_ren:Go.Shelf.Ren:=⟨fun|155=>173|154=>228|138=>256|165=>257|143=>258|166=>47|197=>259|169=>49|195=>265|218=>266|240=>124|241=>267|219=>268|260=>269|276=>209|277=>277|217=>278|225=>279|224=>280|267=>281|266=>287|314=>288|n=>n,fun|9=>9|3=>3|4=>4|72=>93|0=>0|76=>98|105=>253|21=>21|5=>5|70=>90|20=>20|37=>91|75=>96|127=>159|164=>222|46=>268|119=>269|139=>272|138=>271|146=>278|51=>275|80=>101|n=>n,fun|1=>0|3=>1|4=>2|n=>n⟩
theorem Tryz.lays155:Go.Proofs.Lays.n155 Tryz.prog Tryz.lays155_ren:={
 mixed:=by kernel_rfl
 f138:=Tryz.func256.trans (congrArg some (by kernel_rfl))
 f143:=Tryz.func258.trans (congrArg some (by kernel_rfl))
 f154:=Tryz.func228.trans (congrArg some (by kernel_rfl))
 f155:=Tryz.func173.trans (congrArg some (by kernel_rfl))
 f165:=Tryz.func257.trans (congrArg some (by kernel_rfl))
 f166:=Tryz.func47.trans (congrArg some (by kernel_rfl))
 f169:=Tryz.func49.trans (congrArg some (by kernel_rfl))
 f195:=Tryz.func265.trans (congrArg some (by kernel_rfl))
 f197:=Tryz.func259.trans (congrArg some (by kernel_rfl))
 f217:=Tryz.func278.trans (congrArg some (by kernel_rfl))
 f218:=Tryz.func266.trans (congrArg some (by kernel_rfl))
 f219:=Tryz.func268.trans (congrArg some (by kernel_rfl))
 f224:=Tryz.func280.trans (congrArg some (by kernel_rfl))
 f225:=Tryz.func279.trans (congrArg some (by kernel_rfl))
 f240:=Tryz.func124.trans (congrArg some (by kernel_rfl))
 f241:=Tryz.func267.trans (congrArg some (by kernel_rfl))
 f260:=Tryz.func269.trans (congrArg some (by kernel_rfl))
 f266:=Tryz.func287.trans (congrArg some (by kernel_rfl))
 f267:=Tryz.func281.trans (congrArg some (by kernel_rfl))
 f276:=Tryz.func209.trans (congrArg some (by kernel_rfl))
 f277:=Tryz.func277.trans (congrArg some (by kernel_rfl))
 f314:=Tryz.func288.trans (congrArg some (by kernel_rfl))
 t0:=Tryz.underlying0
 a0:=Tryz.isAgg0
 z0:=Tryz.sizeOf0
 v0:=Tryz.zeroValue0
 t3:=Tryz.underlying3
 a3:=Tryz.isAgg3
 z3:=Tryz.sizeOf3
 v3:=Tryz.zeroValue3
 t4:=Tryz.underlying4
 a4:=Tryz.isAgg4
 z4:=Tryz.sizeOf4
 v4:=Tryz.zeroValue4
 t5:=Tryz.underlying5
 a5:=Tryz.isAgg5
 z5:=Tryz.sizeOf5
 v5:=Tryz.zeroValue5
 t9:=Tryz.underlying9
 a9:=Tryz.isAgg9
 z9:=Tryz.sizeOf9
 v9:=Tryz.zeroValue9
 t20:=Tryz.underlying20
 a20:=Tryz.isAgg20
 z20:=Tryz.sizeOf20
 v20:=Tryz.zeroValue20
 t21:=Tryz.underlying21
 a21:=Tryz.isAgg21
 z21:=Tryz.sizeOf21
 v21:=Tryz.zeroValue21
 t37:=Tryz.underlying91
 a37:=Tryz.isAgg91
 z37:=Tryz.sizeOf91
 v37:=Tryz.zeroValue91
 t46:=Tryz.underlying268
 a46:=Tryz.isAgg268
 z46:=Tryz.sizeOf268
 v46:=Tryz.zeroValue268
 t51:=Tryz.underlying275
 a51:=Tryz.isAgg275
 z51:=Tryz.sizeOf275
 v51:=Tryz.zeroValue275
 t70:=Tryz.underlying90
 a70:=Tryz.isAgg90
 z70:=Tryz.sizeOf90
 v70:=Tryz.zeroValue90
 t72:=Tryz.underlying93
 a72:=Tryz.isAgg93
 z72:=Tryz.sizeOf93
 v72:=Tryz.zeroValue93
 t75:=Tryz.underlying96
 a75:=Tryz.isAgg96
 z75:=Tryz.sizeOf96
 v75:=Tryz.zeroValue96
 t76:=Tryz.underlying98
 a76:=Tryz.isAgg98
 z76:=Tryz.sizeOf98
 v76:=Tryz.zeroValue98
 t105:=Tryz.underlying253
 a105:=Tryz.isAgg253
 z105:=Tryz.sizeOf253
 v105:=Tryz.zeroValue253
 t119:=Tryz.underlying269
 a119:=Tryz.isAgg269
 z119:=Tryz.sizeOf269
 t127:=Tryz.underlying159
 a127:=Tryz.isAgg159
 z127:=Tryz.sizeOf159
 v127:=Tryz.zeroValue159
 t138:=Tryz.underlying271
 a138:=Tryz.isAgg271
 z138:=Tryz.sizeOf271
 v138:=Tryz.zeroValue271
 t139:=Tryz.underlying272
 a139:=Tryz.isAgg272
 z139:=Tryz.sizeOf272
 v139:=Tryz.zeroValue272
 t146:=Tryz.underlying278
 a146:=Tryz.isAgg278
 z146:=Tryz.sizeOf278
 v146:=Tryz.zeroValue278
 t164:=Tryz.underlying222
 a164:=Tryz.isAgg222
 z164:=Tryz.sizeOf222
 v164:=Tryz.zeroValue222
 g1:=by kernel_rfl
 g3:=by kernel_rfl
 g4:=by kernel_rfl}
theorem Tryz.Builder_Extra_155:Builder.Extra Tryz.prog Tryz.lays155_ren:={
 sizeBuilder:=by kernel_rfl
 liesBuilder:=by kernel_rfl
 t5:=Tryz.underlying5
 a5:=Tryz.isAgg5
 z5:=Tryz.sizeOf5
 v5:=Tryz.zeroValue5
 infoByte:=by kernel_rfl
 cellsByte:=by kernel_rfl
 sizeByte:=by kernel_rfl
 neB5:=by decide}
open Go.RowKit Go.Lib in
theorem Tryz.strings_ReplaceAll (s old new:ByteArray) (m:Int) (w:World) (hs:s.size<4294967281) (hm:w.cell? ⟨0,0,none⟩=some (.int .i64 m)) (h1:1≤old.size) (hlen:s.size+Lib.countB s old*new.size≤140737488355328) :
  Calls Tryz.prog 173 #[.string s,.string old,.string new] w fun e w' =>
   e=.returned (.string ⟨(Lib.replaceAll s.data.toList old.data.toList new.data.toList).toArray⟩)∧Below w.heap.size w w':=Any.strings_ReplaceAll Tryz.lays155 Tryz.Builder_Extra_155 s old new m w hs hm h1 hlen
open Go.RowKit Go.Lib in
theorem Tryz.strings_IndexFunc_grows (g:Nat) (lb:Array Value) (eg:∀ args w,(callFunc g args).run Tryz.prog w=.ok (.enter g args) w) (p:Nat→Bool) (s:ByteArray) (w:World) (hp:PredGrows Tryz.prog g lb p w) :
  Calls Tryz.prog 223 #[.string s,.func (.func g) #[] lb] w fun e w'=>e=.returned (.int .i64 (Lib.idxFunc p true s))∧Below w.heap.size w w':=Any.strings_IndexFunc_grows Tryz.laysGw15 g lb eg p s w hp
end Go.Proofs
namespace Go.Pe
inductive C where
 | any
 | undef
 | lit (v:Value)
 | sl (cs:List C) (n:Nat)
 | ref (cs:List C)
 | fn (f:Nat) (caps:List C)
 | agg (cs:List C)
 | tup (cs:List C)
 | ifc (t:Nat) (c:C)
abbrev ci (n:Int):C:=.lit (.int .i64 n)
abbrev cb (b:Bool):C:=.lit (.bool b)
abbrev aH (s:ByteArray):C:=.lit (.string s)
def C.cells:C→List C
 | .agg cs=>cs
 | c=>[c]
inductive Tk where
 | nm (clk ix i:Nat)
 | cell (r off:Nat)
 deriving DecidableEq
inductive X where
 | of (a:C)
 | nil
 | own (t:Tk) (e z:Nat) (cs:List C) (n:Nat)
 | ptr (r off:Nat)
 | mp (r:Nat)
 | clo (f:Nat) (caps:List X)
 | agg (xs:List X)
 | tup (xs:List X)
 | nw (o:Option Tk) (ty z:Nat)
abbrev aU (n:Int):X:=.of (ci n)
abbrev aG (b:Bool):X:=.of (cb b)
abbrev dy (s:ByteArray):X:=.of (aH s)
inductive Ob where
 | var (ty:Nat) (xs:List X)
 | map (es:List (Value×C))
mutual
def X.rd:X→Option C
 | .of c=>some c
 | .nil=>some (.sl [] 0)
 | .own _ _ _ cs n=>some (.sl cs n)
 | .agg xs=>(X.rds xs).map .agg
 | _=>none
def X.rds:List X→Option (List C)
 | []=>some []
 | x::r=>match x.rd,X.rds r with
  | some c,some cs=>some (c::cs)
  | _,_=>none
end
def afe (t:Tk):Option Tk→Option Tk
 | some t'=>if t'=t then none else some t'
 | none=>none
mutual
def X.drop (t:Tk):X→X
 | .own t' e z cs n=>if t'=t then .of (.sl cs n) else .own t' e z cs n
 | .clo f caps=>.clo f (X.drops t caps)
 | .agg xs=>.agg (X.drops t xs)
 | .tup xs=>.tup (X.drops t xs)
 | .nw o ty z=>.nw (afe t o) ty z
 | x=>x
def X.drops (t:Tk):List X→List X
 | []=>[]
 | x::r=>x.drop t::X.drops t r
end
def Ob.drop (t:Tk):Ob→Ob
 | .var ty xs=>.var ty (X.drops t xs)
 | o=>o
mutual
def X.tr (σ:Nat→Option Nat) (ρ:Tk→Option Tk):X→X
 | .of c=>.of c
 | .nil=>.nil
 | .own t e z cs n=>match ρ t with
  | some t'=>.own t' e z cs n
  | none=>.of (.sl cs n)
 | .ptr r off=>match σ r with
  | some r'=>.ptr r' off
  | none=>.of .any
 | .mp r=>match σ r with
  | some r'=>.mp r'
  | none=>.of .any
 | .clo f caps=>.clo f (X.trs σ ρ caps)
 | .agg xs=>.agg (X.trs σ ρ xs)
 | .tup xs=>.tup (X.trs σ ρ xs)
 | .nw o ty z=>.nw (o.bind ρ) ty z
def X.trs (σ:Nat→Option Nat) (ρ:Tk→Option Tk):List X→List X
 | []=>[]
 | x::r=>x.tr σ ρ::X.trs σ ρ r
end
def Ob.tr (σ:Nat→Option Nat) (ρ:Tk→Option Tk):Ob→Ob
 | .var ty xs=>.var ty (X.trs σ ρ xs)
 | .map es=>.map es
mutual
def X.refs:X→List Nat
 | .ptr r _=>[r]
 | .mp r=>[r]
 | .clo _ caps=>X.refsL caps
 | .agg xs=>X.refsL xs
 | .tup xs=>X.refsL xs
 | _=>[]
def X.refsL:List X→List Nat
 | []=>[]
 | x::r=>x.refs++X.refsL r
end
mutual
def X.toks:X→List Tk
 | .own t _ _ _ _=>[t]
 | .clo _ caps=>X.toksL caps
 | .agg xs=>X.toksL xs
 | .tup xs=>X.toksL xs
 | .nw o _ _=>o.toList
 | _=>[]
def X.toksL:List X→List Tk
 | []=>[]
 | x::r=>x.toks++X.toksL r
end
def Ob.refs:Ob→List Nat
 | .var _ xs=>X.refsL xs
 | .map _=>[]
def pos {α:Type} [DecidableEq α]:List α→α→Option Nat
 | [],_=>none
 | a::l,b=>if a=b then some 0 else (pos l b).map (·+1)
def nub {α:Type} [DecidableEq α]:List α→List α→List α
 | [],seen=>seen
 | a::l,seen=>if a∈seen then nub l seen else nub l (seen++[a])
def aah (objs:List Ob):Nat→List Nat→List Nat→List Nat
 | 0,_,seen=>seen
 | _+1,[],seen=>seen
 | n+1,r::todo,seen=>if r∈seen then aah objs n todo seen else aah objs n (((objs[r]?).map Ob.refs).getD []++todo) (seen++[r])
def aa5 (refs:List Nat) (ts:List Tk) (t:Tk):Option Tk:=match pos ts t with
 | some i=>some (.nm 0 0 i)
 | none=>match t with
  | .cell r off=>(pos refs r).map fun r'=>.cell r' off
  | .nm ..=>none
def aar (refs:List Nat) (ts:List Tk) (t:Tk):Option Tk:=if t∈ts then none else match t with
 | .cell r _=>if r∈refs then none else some t
 | .nm ..=>some t
def fS (refs:List Nat) (L i:Nat):Nat:=match refs[i]? with
 | some r=>r
 | none=>L+(i-refs.length)
def fH (refs:List Nat) (L clk ix:Nat):Tk→Option Tk
 | .nm 0 0 i=>some (.nm clk ix i)
 | .nm ..=>none
 | .cell r off=>some (.cell (fS refs L r) off)
def aeM (ts:List Tk) (objs:List Ob):List Ob:=match ts with
 | []=>objs
 | ts=>objs.map (Ob.tr some fun t=>if t∈ts then none else some t)
def jj (σ:Nat→Option Nat) (ρ:Tk→Option Tk) (objs:List Ob):List Nat→Option (List Ob)
 | []=>some []
 | r::l=>match objs[r]?,jj σ ρ objs l with
  | some ob,some q=>some (ob.tr σ ρ::q)
  | _,_=>none
def jB (σ:Nat→Option Nat) (ρ:Tk→Option Tk):List Ob→List Nat→List Ob→List Ob
 | objs,r::l,ob::q=>jB σ ρ (objs.set r (ob.tr σ ρ)) l q
 | objs,_,_=>objs
def ang (t:Option Tk) (x:X):X:=match t with|none=>x|some t=>x.drop t
structure S where
 fr:Nat→X
 objs:List Ob
 clk:Nat
def upd (f:Nat→X) (d:Nat) (x:X):Nat→X:=fun j=>if j=d then x else f j
def S.put (s:S) (d:Option Nat) (x:X):S:=match d with
 | none=>s
 | some d=>{s with fr:=upd s.fr d x}
def S.drop (s:S) (t:Option Tk):S:=match t with
 | none=>s
 | some t=>{s with fr:=fun j=>(s.fr j).drop t,objs:=s.objs.map (·.drop t)}
def abR:Value→X
 | .slice none 0 0=>.nil
 | .int k n=>.of (.lit (.int k n))
 | .bool b=>.of (.lit (.bool b))
 | .string s=>.of (.lit (.string s))
 | .pointer none=>.of (.lit (.pointer none))
 | .map none=>.of (.lit (.map none))
 | .nilFunc=>.of (.lit .nilFunc)
 | .nilIface=>.of (.lit .nilIface)
 | _=>.of .any
def S.ev (s:S):Operand→X
 | .tmp t=>s.fr t
 | .const v=>abR v
 | .func f=>.of (.fn f [])
 | .global _=>.of .any
structure TD where
 und:TypeDesc
 size:Nat
 bytes:Nat
 agg:Bool
 zero:List Value
 fields:List (Nat×Nat)
abbrev TT:=Nat→Option TD
def amc:TypeDesc→Bool
 | .struct _=>true
 | .array _ _=>true
 | _=>false
def amb:Value→Bool
 | .agg _=>true
 | _=>false
def fieldsOf (P:Program):TypeDesc→Option (List (Nat×Nat))
 | .struct fs=>fs.toList.mapM fun f=>(P.info? f.type).map fun i=>(f.offset,i.size)
 | _=>some []
def TT.of (P:Program):TT:=fun t=>match P.underlying t,P.info? t with
 | some u,some i=>match i.zero,fieldsOf P u with
  | some z,some fl=>if z.cells.toList.all (·.oneCell')&&z.cells.size == i.size&&amb z == amc u then some ⟨u,i.size,i.bytes,amc u,z.cells.toList,fl⟩ else none
  | _,_=>none
 | _,_=>none
def LIM:Nat:=4294967296
def gN:Nat:=140737488355328
def adj (op:BinOp) (k:IntKind) (a b:Int):Option Value:=match op with
 | .add=>some (.int k (k.wrap (a+b)))
 | .sub=>some (.int k (k.wrap (a-b)))
 | .mul=>some (.int k (k.wrap (a*b)))
 | .quo=>if b=0 then none else some (.int k (k.wrap (a.tdiv b)))
 | .rem=>if b=0 then none else some (.int k (a.tmod b))
 | .eql=>some (.bool (decide (a=b)))
 | .neq=>some (.bool (!decide (a=b)))
 | .lss=>some (.bool (decide (a<b)))
 | .leq=>some (.bool (decide (a≤b)))
 | .gtr=>some (.bool (decide (b<a)))
 | .geq=>some (.bool (decide (b≤a)))
 | .and=>some (.int k (k.wrap (BitVec.ofInt k.bits a &&& BitVec.ofInt k.bits b).toNat))
 | .andNot=>some (.int k (k.wrap (BitVec.ofInt k.bits a &&& ~~~BitVec.ofInt k.bits b).toNat))
 | _=>none
def amw (op:BinOp) (a b:ByteArray):Option Value:=match op with
 | .add=>if a.size+b.size≤gN then some (.string (a++b)) else none
 | .eql=>some (.bool (decide (a=b)))
 | .neq=>some (.bool (!decide (a=b)))
 | _=>none
def anr (op:BinOp) (a b:Bool):Option Value:=match op with
 | .eql=>some (.bool (a == b))
 | .neq=>some (.bool (!(a == b)))
 | _=>none
def ajW:Option TypeDesc→Bool
 | some .bool=>true
 | _=>false
def aaK (u:Option TypeDesc) (op:BinOp):Value→Value→Option Value
 | .int k a,.int k' b=>if k=k' then adj op k a b else none
 | .string a,.string b=>amw op a b
 | .bool a,.bool b=>if ajW u then anr op a b else none
 | _,_=>none
def aoH (op:UnOp):Value→Option Value
 | .int k n=>match op with
  | .neg=>some (.int k (k.wrap (0-n)))
  | _=>none
 | .bool b=>match op with
  | .not=>some (.bool (!b))
  | _=>none
 | _=>none
def aia:Value→Value→Option Bool
 | .int k a,.int k' b=>if k=k' then some (decide (a=b)) else none
 | .string a,.string b=>some (decide (a=b))
 | .bool a,.bool b=>some (a == b)
 | _,_=>none
def ace:X→Option Int
 | .of (.lit (.int .i64 n))=>some n
 | _=>none
def acZ:X→Option Bool
 | .of (.lit (.bool b))=>some b
 | _=>none
def acJ:X→Option (List C×Nat)
 | .nil=>some ([],0)
 | .own _ _ _ cs n=>some (cs,n)
 | .of (.sl cs n)=>some (cs,n)
 | _=>none
def eu:X→Option (List X)
 | .agg xs=>some xs
 | .of (.agg cs)=>some (cs.map .of)
 | .of .any=>none
 | .of .undef=>none
 | .of (.tup _)=>none
 | .tup _=>none
 | .nw ..=>none
 | x=>some [x]
def gH (x:X):Option (List C):=(eu x).bind X.rds
def jb (place:Nat→Option (Nat×Nat)) (cells:List X):List (Nat×List X)→Option (List X)
 | []=>some cells
 | (i,xs)::rest=>match place i with
  | none=>none
  | some (off,size) =>
   if xs.length=size∧off+size≤cells.length then jb place (cells.take off++xs++cells.drop (off+size)) rest
   else none
def iq (d:TD):List X:=d.zero.map abR
def cC (T:TT) (t:Nat) (cs:List C):Option C:=match T t with
 | none=>none
 | some d=>if d.size≤cs.length then (if d.agg then some (.agg (cs.take d.size)) else match cs with
   | c::_=>some c
   | []=>none) else none
def gX (T:TT) (t:Nat) (xs:List X):Option X:=match T t with
 | none=>none
 | some d=>if d.size≤xs.length then (if d.agg then some (.agg (xs.take d.size)) else match xs with
   | x::_=>some x
   | []=>none) else none
def elemOf (T:TT) (t:Nat):Option (Nat×TD):=match T t with
 | some {und:=.slice e,..}=>(T e).map fun d=>(e,d)
 | _=>none
def js (f:Operand→X) (ps:List (Nat×Operand)):Option (List (Nat×List X)):=match ps with
 | []=>some []
 | (i,x)::r=>match eu (f x),js f r with
  | some l,some q=>some ((i,l)::q)
  | _,_=>none
def aay (f:Operand→X):List Operand→Option (List C)
 | []=>some []
 | x::r=>match (f x).rd,aay f r with
  | some c,some cs=>some (c::cs)
  | _,_=>none
abbrev Out:=Option (X×Option Tk)
def out (x:X):Out:=some (x,none)
def dE (x:Option X):Out:=x.map fun x=>(x,none)
def ac8:Option TypeDesc→Bool
 | some .string=>true
 | _=>false
def aea (s:ByteArray):List C:=s.data.toList.map fun b=>.lit (.int .u8 b.toNat)
def ah8:Option TD→Bool
 | some {und:=.int .u8,size:=1,..}=>true
 | _=>false
def agO (T:TT) (st xt e:Nat) (x:X):Option (List C×Nat) :=
 if st=xt then acJ x else match x with
  | .of (.lit (.string s))=>if ac8 ((T xt).map (·.und))=true∧ah8 (T e)=true then some (aea s,s.size) else none
  | _=>none
def jy (T:TT) (t:Tk) (st xt:Nat) (s x:X):Out:=match elemOf T st with
 | some (e,d)=>match agO T st xt e x with
  | some (ys,m) =>
   if ys.length=m*d.size∧0<d.size then match s with
    | .nil=>if m≤LIM∧d.bytes≤32768 then some (.own t e d.size ys m,none) else none
    | .own t' e' z cs n=>if e'=e∧z=d.size∧n+m≤LIM∧d.bytes≤32768 then some (.own t e d.size (cs++ys) (n+m),some t') else none
    | _=>none
   else none
  | none=>none
 | none=>none
def acW (d:Int):Option X→Option Int
 | none=>some d
 | some l=>ace l
def aao (T:TT) (t:Nat) (x:X) (lo hi:Option X):Out :=
 match x with
 | .of (.lit (.string s)) =>
  if ac8 ((T t).map (·.und)) then match acW 0 lo,acW (s.size:Int) hi with
  | some l,some h=>if 0≤l∧l≤h∧h≤(s.size:Int) then out (.of (.lit (.string (s.extract l.toNat h.toNat)))) else none
  | _,_=>none
  else none
 | x=>match elemOf T t,acJ x with
  | some (_,d),some (cs,n) =>
   match acW 0 lo,acW (n:Int) hi with
   | some l,some h=>if 0≤l∧l≤h∧h≤(n:Int)∧cs.length=n*d.size then out (.of (.sl ((cs.drop (l.toNat*d.size)).take ((h.toNat-l.toNat)*d.size)) (h.toNat-l.toNat))) else none
   | _,_=>none
  | _,_=>none
def acO (T:TT) (objs:List Ob) (t:Nat):X→Out
 | .ptr r off=>match objs[r]? with
  | some (.var _ xs)=>dE (gX T t (xs.drop off))
  | _=>none
 | .of (.ref cs)=>dE ((cC T t cs).map .of)
 | _=>none
def aiL (T:TT) (t f:Nat):Option (Nat×Nat):=(T t).bind fun d=>d.fields[f]?
def abl (T:TT) (t f:Nat) (x:X):Out:=match aiL T t f with
 | some (o,z)=>if 0<z then match x with
  | .ptr r off=>out (.ptr r (off+o))
  | .of (.ref cs)=>out (.of (.ref (cs.drop o)))
  | _=>none else none
 | none=>none
def anf:TypeDesc→Nat→Option Nat
 | .struct fs,i=>(fs[i]?).map (·.type)
 | _,_=>none
def afz (T:TT) (t f:Nat) (x:X):Out:=match T t with
 | some d=>match d.fields[f]?,anf d.und f with
  | some (o,_),some u=>match x with
   | .agg xs=>dE (gX T u (xs.drop o))
   | .of (.agg cs)=>dE ((cC T u (cs.drop o)).map .of)
   | _=>none
  | _,_=>none
 | none=>none
def dL (T:TT) (t:Nat) (x i:X):Out:=match ace i with
 | none=>none
 | some i=>match T t with
  | some {und:=.slice e,..}=>match T e,acJ x with
   | some d,some (cs,n)=>if 0≤i∧i<(n:Int)∧cs.length=n*d.size∧0<d.size then out (.of (.ref (cs.drop (i.toNat*d.size)))) else none
   | _,_=>none
  | some {und:=.array n e,..}=>match T e with
   | some d=>if 0≤i∧i<(n:Int) then match x with
    | .ptr r off=>out (.ptr r (off+i.toNat*d.size))
    | .of (.ref cs)=>out (.of (.ref (cs.drop (i.toNat*d.size))))
    | _=>none else none
   | none=>none
  | _=>none
def ac9 (T:TT) (t:Nat) (x i:X):Out:=match ace i with
 | none=>none
 | some i=>match x with
  | .of (.lit (.string s))=>if h:ac8 ((T t).map (·.und))=true∧0≤i∧i.toNat<s.size then out (.of (.lit (.int .u8 (s[i.toNat]'h.2.2).toNat))) else none
  | .agg xs=>match T t with
   | some {und:=.array n e,..}=>match T e with
    | some d=>if 0≤i∧i<(n:Int) then dE (gX T e (xs.drop (i.toNat*d.size))) else none
    | none=>none
   | _=>none
  | .of (.agg cs)=>match T t with
   | some {und:=.array n e,..}=>match T e with
    | some d=>if 0≤i∧i<(n:Int) then dE ((cC T e (cs.drop (i.toNat*d.size))).map .of) else none
    | none=>none
   | _=>none
  | _=>none
def atr:Option TypeDesc→Bool
 | some (.slice _)=>true
 | _=>false
def abw (u:Option TypeDesc) (x:X):Out:=match x with
 | .of (.lit (.string s))=>if ac8 u then out (aU s.size) else none
 | x=>match acJ x with
  | some (_,n)=>if atr u then out (aU n) else none
  | none=>none
def aec:List C→Option (List UInt8)
 | []=>some []
 | .lit (.int .u8 n)::r=>(aec r).map (UInt8.ofNat n.toNat::·)
 | _=>none
def ajf (T:TT) (src:Option TD) (x:X):Out:=match src,acJ x with
 | some {und:=.slice e,..},some (cs,n)=>if ah8 (T e)=true∧cs.length=n then dE ((aec cs).map fun l=>dy ⟨l.toArray⟩) else none
 | _,_=>none
def ad1 (T:TT) (src dst:Nat) (x:X):Out:=match T src,(T dst).map (·.und),x with
 | some _,some (TypeDesc.int k),.of (.lit (.int _ n))=>out (.of (.lit (.int k (k.wrap n))))
 | some _,some TypeDesc.string,.of (.lit (.string s))=>out (.of (.lit (.string s)))
 | d,some TypeDesc.string,x=>ajf T d x
 | _,_,_=>none
def att (T:TT) (a e:Nat) (s:ByteArray):Out:=if ac8 ((T a).map (·.und))&&ah8 (T e) then out (.of (.sl (aea s) s.size)) else none
def afL (T:TT) (a b:Nat) (x:X):Out:=match (T b).map (·.und),x with
 | some (TypeDesc.slice e),.of (.lit (.string s))=>att T a e s
 | _,x=>ad1 T a b x
def aa6 (kind:TypeDesc) (k:Value):List (Value×C)→Nat→Option (Option Nat)
 | [],_=>some none
 | e::es,i=>match Instr.sameNow kind k e.1 with
  | some true=>some (some i)
  | some false=>aa6 kind k es (i+1)
  | none=>none
def anc:TypeDesc→Bool
 | .int _=>true
 | .string=>true
 | .bool=>true
 | _=>false
def gk:X→Option Value
 | .of (.lit v)=>some v
 | _=>none
def acN (objs:List Ob):X→Option (List (Value×C))
 | .mp r=>match objs[r]? with
  | some (.map es)=>some es
  | _=>none
 | .of (.lit (.map none))=>some []
 | _=>none
def ahY (T:TT) (t:Nat):Option X:=match T t with
 | some d=>gX T t (iq d)
 | none=>none
def acM (T:TT) (t:Nat):Option (TypeDesc×Nat):=match T t with
 | some {und:=.map kt et,..}=>match (T kt).map (·.und) with
  | some kind=>if anc kind then some (kind,et) else none
  | none=>none
 | _=>none
def ajv:Option TypeDesc→Value→Bool
 | some (.int _),.int _ _=>true
 | some .string,.string _=>true
 | some .bool,.bool _=>true
 | _,_=>false
def ade (T:TT):Nat→List Field→List C→List C→Option Bool
 | _,[],[],[]=>some true
 | o,f::fs,.lit u::r,.lit v::q =>
  if f.name != "_"&&f.offset == o&&ajv ((T f.type).map (·.und)) u&&ajv ((T f.type).map (·.und)) v then match aia u v with
   | some true=>ade T (o+1) fs r q
   | b=>b
  else none
 | _,_,_,_=>none
def adX (P:Program) (T:TT) (t:Nat) (cs ds:List C):Option Bool:=match T t with
 | some {und:=.struct fs,..}=>if P.stoodInHeld t=false∧P.eqGuardType P.depth t=false then ade T 0 fs.toList cs ds else none
 | _=>none
def ahI (P:Program) (T:TT) (t:Nat) (op:BinOp):Option C→Option C→Out
 | some (.agg cs),some (.agg ds)=>match op with
  | .eql=>dE ((adX P T t cs ds).map aG)
  | .neq=>dE ((adX P T t cs ds).map fun b=>aG (!b))
  | _=>none
 | _,_=>none
def gY (P:Program) (T:TT) (t:Nat) (u:Option TypeDesc) (op:BinOp) (x y:X):Out:=match gk x,gk y with
 | some a,some b=>dE ((aaK u op a b).map fun v=>.of (.lit v))
 | _,_=>ahI P T t op x.rd y.rd
def jk (T:TT) (objs:List Ob) (t:Nat) (x k:X) (ok:Bool):Out:=match acM T t,gk k,acN objs x with
 | some (kind,et),some kv,some es=>match aa6 kind kv es 0 with
  | some (some i)=>dE ((es[i]?).map fun e=>if ok then .tup [.of e.2,aG true] else .of e.2)
  | some none=>dE ((ahY T et).map fun z=>if ok then .tup [z,aG false] else z)
  | none=>none
 | _,_,_=>none
def aeE (kind:TypeDesc) (k:Value) (c:C) (es:List (Value×C)):Option (List (Value×C)):=match aa6 kind k es 0 with
 | some (some i)=>some (es.set i (k,c))
 | some none=>some (es++[(k,c)])
 | none=>none
def aLX (kind:TypeDesc) (k:Value) (es:List (Value×C)):Option (List (Value×C)):=match aa6 kind k es 0 with
 | some (some i)=>some (es.eraseIdx i)
 | some none=>some es
 | none=>none
structure An where
 pan:Bool
 rs:List X
 obs:List Ob
abbrev Orc:=Nat→List X→List Ob→Option An
structure En where
 orc:Orc
 obj:Nat→Bool
 tk:Nat→Bool
 mt:String→Option Nat→Bool
def aek:List X→X
 | [x]=>x
 | xs=>.tup xs
def ak (P:Program) (f:Nat):Bool:=match P.funcs[f]? with
 | some fn=>fn.body.isSome&&!(fn.name == "runtime.NumGoroutine")
 | none=>false
def acd (clk ix:Nat):Tk→Option Tk
 | .nm 0 0 i=>some (.nm clk ix i)
 | _=>none
def agB (clk ix:Nat) (xs:List X):List X:=X.trs (fun _=>none) (acd clk ix) xs
def aew (P:Program) (E:En) (clk ix f:Nat) (cs:List C):Out :=
 if ak P f&&!E.obj f then match E.orc f (cs.map .of) [] with
  | some ⟨false,rs,[]⟩=>out (aek (agB clk ix rs))
  | _=>none
 else none
def aLr:Option TypeDesc→Bool
 | none=>false
 | some (.interface _)=>false
 | some _=>true
def auX (x y:X):Out:=match ace x,ace y with
 | some a,some b=>out (aU (if b<a then b else a))
 | _,_=>none
def an9 (x y:X):Out:=match ace x,ace y with
 | some a,some b=>out (aU (if a<b then b else a))
 | _,_=>none
def af3 (P:Program) (T:TT) (E:En) (s:S) (ix:Nat):Callee→List Operand→List Nat→Out
 | .builtin .len,[x],[t]=>abw ((T t).map (·.und)) (s.ev x)
 | .builtin .append,[a,b],[st,xt]=>jy T (.nm s.clk ix 0) st xt (s.ev a) (s.ev b)
 | .builtin .min,[a,b],_=>auX (s.ev a) (s.ev b)
 | .builtin .max,[a,b],_=>an9 (s.ev a) (s.ev b)
 | .value f,args,_=>match s.ev f,aay s.ev args with
  | .of (.fn f caps),some cs=>aew P E s.clk ix f (cs++caps)
  | _,_=>none
 | _,_,_=>none
def afo:X→Option X
 | .of c=>some (.of c)
 | .nil=>some .nil
 | .own _ _ _ cs n=>some (.of (.sl cs n))
 | .ptr r o=>some (.ptr r o)
 | _=>none
def abE:List X→Option (List X)
 | []=>some []
 | x::l=>match afo x,abE l with
  | some y,some r=>some (y::r)
  | _,_=>none
def ajB (f:Nat):Option (List X)→Out
 | some xs=>out (.clo f xs)
 | none=>none
def ahV (g:Nat):Nat:=g / 2
def alj (g:Nat) (caps args:List X):List X:=if g % 2=0 then args++caps else caps++args
def val (P:Program) (T:TT) (E:En) (s:S) (ix:Nat) (o:Oper):Out :=
 match o.op with
 | .move x | .assign x=>out (s.ev x)
 | .pick c a b=>match acZ (s.ev c) with
  | some b'=>out (if b' then s.ev a else s.ev b)
  | none=>none
 | .binOp op t x y _=>gY P T t ((T t).map (·.und)) op (s.ev x) (s.ev y)
 | .unOp op _ x=>match s.ev x with
  | .of (.lit u)=>dE ((aoH op u).map fun v=>.of (.lit v))
  | _=>none
 | .load t a=>acO T s.objs t (s.ev a)
 | .fieldAddr t x f=>abl T t f (s.ev x)
 | .field t x f=>afz T t f (s.ev x)
 | .indexAddr t x i=>dL T t (s.ev x) (s.ev i)
 | .index t x i=>ac9 T t (s.ev x) (s.ev i)
 | .slice t x lo hi none=>aao T t (s.ev x) (lo.map s.ev) (hi.map s.ev)
 | .build t ps=>match T t,js s.ev ps.toList with
  | some d,some qs=>match d.und with
   | .struct _=>dE ((jb (fun i=>d.fields[i]?) (iq d) qs).map .agg)
   | .array _ e=>match T e with
    | some de=>dE ((jb (fun i=>some (i*de.size,de.size)) (iq d) qs).map .agg)
    | none=>none
   | _=>none
  | _,_=>none
 | .buildSlice t' n ps=>match elemOf T t',js s.ev ps.toList with
  | some (e,d),some qs =>
   if n*d.size≤16777216∧0<d.size∧d.zero.length=d.size then match jb (fun i=>some (i*d.size,d.size)) ((List.replicate n (iq d)).flatten) qs with
    | some xs=>match X.rds xs with
     | some cs=>out (.own (.nm s.clk ix 0) e d.size cs n)
     | none=>none
    | none=>none
   else none
  | _,_=>none
 | .extract x i=>match s.ev x with
  | .tup xs=>dE (xs[i]?)
  | .of (.tup cs)=>dE ((cs[i]?).map .of)
  | _=>none
 | .nilCheck x=>match s.ev x with
  | .ptr r off=>out (.ptr r off)
  | .of (.ref cs)=>out (.of (.ref cs))
  | _=>none
 | .makeFunc (.func f) first caps=>if first.size=0 then match aay s.ev caps.toList with
  | some cs=>out (.of (.fn f cs))
  | none=>ajB (2*f) (abE (caps.toList.map s.ev))
  else if caps.size=0 then ajB (2*f+1) (abE (first.toList.map s.ev)) else none
 | .convert a b x=>afL T a b (s.ev x)
 | .lookup t x i ok=>jk T s.objs t (s.ev x) (s.ev i) ok
 | .makeInterface t x=>match aLr ((T t).map (·.und)),(s.ev x).rd with
  | true,some c=>out (.of (.ifc t c))
  | _,_=>none
 | .call {callee:=cal,args:=args,argTypes:=tys}=>af3 P T E s ix cal args.toList tys.toList
 | .alloc t=>match T t with
  | some d=>if 0<d.size then out (.nw (some (.nm s.clk ix 0)) t d.size) else none
  | none=>none
 | .store t (.tmp d) x=>match T t,s.fr d,gH (s.ev x),o.guard,o.dst with
  | some td,.nw (some tk) ty z,some cs,none,none=>if ty=t∧z=td.size∧cs.length=z then some (.of (.ref cs),some tk) else none
  | _,_,_,_,_=>none
 | _=>none
def fE (o:Oper):Option Nat:=match o.op,o.guard with
 | .store _ (.tmp d) _,none=>some d
 | _,_=>o.dst
def abf (clk:Nat) (after:List Edge):Option Tk→Bool
 | some (.nm c ix _)=>decide (c<clk)||(decide (c=clk)&&after.any fun e=>Region.binds .any e&&e.on == ix)
 | _=>true
def hJ (P:Program) (T:TT) (E:En) (s:S) (ix:Nat) (o:Oper):Option (Option X×S):=match val P T E s ix o with
 | some (x,t)=>if abf s.clk o.after.toList t=true then some (none,(s.drop t).put (fE o) x) else none
 | none=>none
def gf (r:Nat):Nat→List X→List (Tk×Tk)
 | _,[]=>[]
 | off,.own t _ _ _ _::l=>(t,.cell r off)::gf r (off+1) l
 | off,_::l=>gf r (off+1) l
def adx:List (Tk×Tk)→Tk→Option Tk
 | [],_=>none
 | (a,b)::l,t=>if a=t then some b else adx l t
def adE (r off n:Nat) (mv:List (Tk×Tk)) (t:Tk):Option Tk:=match adx mv t with
 | some t'=>some t'
 | none=>match t with
  | .cell r' o'=>if r'=r∧off≤o'∧o'<off+n then none else some t
  | .nm ..=>some t
def abA:List X→Bool
 | []=>true
 | .own ..::_=>false
 | _::l=>abA l
def S.tr (ρ:Tk→Option Tk) (s:S):S:={s with fr:=fun j=>(s.fr j).tr some ρ,objs:=s.objs.map (Ob.tr some ρ)}
def aoe (r off:Nat) (xs ys:List X) (s:S):S:=if abA xs&&abA ys then s else s.tr (adE r off xs.length (gf r off xs))
def akf (s:S) (d:Option Nat) (ty:Nat) (xs:List X):S:=(aoe s.objs.length 0 xs [] {s with objs:=s.objs++[Ob.var ty xs]}).put d (.ptr s.objs.length 0)
def am8 (s:S) (j ty:Nat) (xs:List X):S:={s with objs:=s.objs++[Ob.var ty xs]}.put (some j) (.ptr s.objs.length 0)
def agm (s:S) (d:Option Nat) (n r off:Nat) (xs:List X):Option S:=match s.objs[r]? with
 | some (.var ty ys)=>if xs.length=n∧off+xs.length≤ys.length then
   some ((aoe r off xs ((ys.drop off).take xs.length) {s with objs:=s.objs.set r (Ob.var ty (ys.take off++xs++ys.drop (off+xs.length)))}).put d (.of .undef))
  else none
 | _=>none
def ahr (s:S) (c:Callee) (args:List Operand):Option (Nat×List X):=match c with
 | .value f=>match s.ev f with
  | .of (.fn g caps)=>some (g,args.map s.ev++caps.map .of)
  | .clo g caps=>some (ahV g,alj g caps (args.map s.ev))
  | _=>none
 | _=>none
def ant (s:S) (ix:Nat) (d:Option Nat) (refs:List Nat) (ts:List Tk) (an:An):Option (Option X×S) :=
 let σ:=fun i=>some (fS refs s.objs.length i)
 let ρ:=fH refs s.objs.length s.clk ix
 if refs.length≤an.obs.length then
  let s':S:={s with fr:=fun j=>(s.fr j).tr some (aar refs ts),objs:=jB σ ρ (s.objs.map (Ob.tr some (aar refs ts))) refs an.obs++(an.obs.drop refs.length).map (Ob.tr σ ρ)}
  match an with
  | ⟨true,[x],_⟩=>some (some (x.tr σ ρ),s')
  | ⟨true,_,_⟩=>none
  | ⟨false,rs,_⟩=>some (none,s'.put d (aek (X.trs σ ρ rs)))
 else none
def ahm (P:Program) (E:En) (s:S) (ix:Nat) (d:Option Nat) (f:Nat) (us:List X):Option (Option X×S) :=
 if ak P f then
  let refs:=aah s.objs 999 (X.refsL us) []
  let ts:=if E.tk f then nub (X.toksL us) [] else []
  match jj (pos refs) (aa5 refs ts) (aeM ts s.objs) refs with
  | some obs=>match E.orc f (X.trs (pos refs) (aa5 refs ts) us) obs with
   | some an=>ant s ix d refs ts an
   | none=>none
  | none=>none
 else none
def abW (P:Program) (T:TT) (E:En) (dr:Bool) (s:S) (ix:Nat) (o:Oper):Option (Option X×S) :=
 if dr then hJ P T E s ix o else
 match o.op with
 | .alloc t=>if E.mt o.pos o.dst then match T t with
   | some d=>some (none,akf s o.dst t (iq d))
   | none=>none
  else hJ P T E s ix o
 | .box t x=>if E.mt o.pos o.dst then match T t,eu (s.ev x) with
   | some d,some xs=>if xs.length=d.size then some (none,akf s o.dst t xs) else none
   | _,_=>none
  else match T t,gH (s.ev x) with
   | some d,some cs=>if cs.length=d.size∧0<d.size then some (none,s.put o.dst (.of (.ref cs))) else none
   | _,_=>none
 | .store t a x=>match s.ev a with
  | .nw (some tk) ty z=>if E.mt o.pos (fE o) then match T t,eu (s.ev x),fE o with
    | some d,some xs,some j=>if ty=t∧z=d.size∧xs.length=z∧abf s.clk o.after.toList (some tk)=true∧o.dst=none then some (none,am8 (s.drop (some tk)) j t (X.drops tk xs)) else none
    | _,_,_=>none
   else hJ P T E s ix o
  | _=>match T t,s.ev a,eu (s.ev x) with
   | some d,.ptr r off,some xs=>(agm s o.dst d.size r off xs).map fun s=>(none,s)
   | _,_,_=>none
 | .makeMap _ none=>some (none,{s with objs:=s.objs++[Ob.map []]}.put o.dst (.mp s.objs.length))
 | .mapUpdate t m k x=>match acM T t,s.ev m,gk (s.ev k),(s.ev x).rd with
  | some (kind,_),.mp r,some kv,some c=>match s.objs[r]? with
   | some (.map es)=>match aeE kind kv c es with
    | some es'=>some (none,{s with objs:=s.objs.set r (Ob.map es')}.put o.dst (.of .undef))
    | none=>none
   | _=>none
  | _,_,_,_=>none
 | .insert t m k x=>match acM T t,s.ev m,gk (s.ev k),(s.ev x).rd with
  | some (kind,_),.mp r,some kv,some c=>match s.objs[r]? with
   | some (.map es)=>match aeE kind kv c es with
    | some es'=>some (none,{s with objs:=s.objs.set r (Ob.map es')}.put o.dst (.of .undef))
    | none=>none
   | _=>none
  | _,_,_,_=>none
 | .call {callee:=.builtin .delete,args:=args,argTypes:=tys}=>match args.toList,tys.toList with
  | [m,k],[t,_]=>match acM T t,s.ev m,gk (s.ev k) with
   | some (kind,_),.mp r,some kv=>match s.objs[r]? with
    | some (.map es)=>match aLX kind kv es with
     | some es'=>some (none,{s with objs:=s.objs.set r (Ob.map es')}.put o.dst (.tup []))
     | none=>none
    | _=>none
   | _,_,_=>none
  | _,_=>none
 | .panic x=>match (s.ev x).rd with
  | some (.ifc t c)=>some (some (.of (.ifc t c)),s)
  | _=>none
 | .call {callee:=.value f,args:=args,argTypes:=_}=>match ahr s (.value f) args.toList with
  | some (g,us)=>if E.obj g then ahm P E s ix o.dst g us else hJ P T E s ix o
  | none=>none
 | _=>hJ P T E s ix o
def fI (ops:Array Oper) (s:S) (o:Oper):Option Bool :=
 match o.guard with
 | none=>some true
 | some (j,want)=>match (ops[j]?).bind (·.dst) with
  | some d=>match s.fr d with
   | .of (.lit (.bool b))=>some (b == want)
   | .of .undef=>some false
   | _=>none
  | none=>some false
def dh (P:Program) (T:TT) (E:En) (dr:Bool) (ops:Array Oper) (s:S) (ix:Nat) (o:Oper):Option (Option X×S) :=
 match fI ops s o with
 | some true=>abW P T E dr s ix o
 | some false=>some (none,s.put o.dst (.of .undef))
 | none=>none
def abD (P:Program) (T:TT) (E:En) (dr:Bool) (ops:Array Oper):Nat→List Oper→S→Option (Option X×S)
 | _,[],s=>some (none,s)
 | k,o::r,s=>match dh P T E dr ops s k o with
  | some (none,s')=>abD P T E dr ops (k+1) r s'
  | some (some x,s')=>some (some x,s')
  | none=>none
def eU:Op→Bool
 | .store ..=>true
 | _=>false
def jr:List Oper→Bool
 | []=>false
 | [o]=>eU o.op&&o.guard.isNone
 | _::o::l=>jr (o::l)
def ik (obj:Nat→Bool):Op→Bool
 | .call {callee:=.value (.func g),args:=args,..}=>args.isEmpty&&obj g
 | _=>false
def agZ (obj:Nat→Bool):List Oper→Bool
 | []=>false
 | o::_=>ik obj o.op&&o.guard.isNone
def spB (obj:Nat→Bool) (l:List Oper):Bool:=agZ obj l||jr l
def mkA (P:Program) (E:En):Op→Option (List (Value×C))
 | .call {callee:=.value (.func g),..}=>if ak P g then match E.orc g [] [] with
  | some ⟨false,[.mp 0],[.map es]⟩=>some es
  | _=>none
  else none
 | _=>none
def mkS (P:Program) (E:En) (s:S) (o:Oper):Option S:=(mkA P E o.op).map fun es=>{s with objs:=s.objs++[Ob.map es]}.put o.dst (.mp s.objs.length)
def abG (P:Program) (T:TT) (E:En) (ops:Array Oper):Nat→List Oper→S→Option (Option X×S)
 | _,[],_=>none
 | k,[o],s=>match dh P T E false ops s k o with
  | some (none,s')=>some (none,s')
  | _=>none
 | k,o::o'::l,s=>match dh P T E true ops s k o with
  | some (none,s')=>abG P T E ops (k+1) (o'::l) s'
  | _=>none
def alb (P:Program) (T:TT) (E:En) (ops:Array Oper) (l:List Oper) (s:S):Option (Option X×S) :=
 if jr l=true then abG P T E ops 0 l s else match l with
  | o::r=>match mkS P E s o with
   | some s1=>abD P T E true ops 1 r s1
   | none=>none
  | []=>none
def opK:Op→Nat
 | .store ..=>1
 | .assign _=>2
 | .alloc _=>3
 | .load _ _=>4
 | _=>0
def aMg:Op→Option Nat
 | .store _ (.tmp d) _=>some d
 | _=>none
def aiW:List Oper→Option Nat
 | []=>none
 | [_]=>none
 | [o,o']=>if (eU o.op&&o.guard.isNone&&(o'.guard.isNone&&(eU o'.op||opK o'.op == 2)))=true then aMg o.op else none
 | _::o::o'::l=>aiW (o::o'::l)
def eqD:Option Nat→Nat→Bool
 | some a,d=>a == d
 | none,_=>false
def ajT (d:Nat):List Oper→Bool
 | []=>false
 | o::l=>(opK o.op == 3&&eqD o.dst d)||ajT d l
def tlM (l:List Oper):Option Nat→Bool
 | some d=>!ajT d l
 | none=>false
def tlB (l:List Oper):Bool:=tlM l (aiW l)
def aDK (s:S):Op→Bool
 | .load _ a=>match s.ev a with
  | .of (.ref _)=>true
  | _=>false
 | _=>false
def aef (s:S) (o:Oper):Bool:=!(opK o.op == 4)||aDK s o.op
def agI (P:Program) (T:TT) (E:En) (ops:Array Oper):Nat→List Oper→S→Option (Option X×S)
 | k,o::o'::o''::l,s=>if aef s o=true then match dh P T E true ops s k o with
   | some (none,s')=>agI P T E ops (k+1) (o'::o''::l) s'
   | _=>none
  else none
 | k,[o,o'],s=>match dh P T E false ops s k o with
  | some (none,s')=>match dh P T E false ops s' (k+1) o' with
   | some (none,s'')=>some (none,s'')
   | _=>none
  | _=>none
 | _,_,_=>none
def acF (obj:Nat→Bool):Op→Bool
 | .call {callee:=.value (.func g),..}=>obj g
 | _=>false
def abQ (obj:Nat→Bool):List Oper→Nat
 | []=>0
 | [o]=>if (acF obj o.op&&o.guard.isNone)=true then 1 else 0
 | [o,o']=>if (acF obj o'.op&&o'.guard.isNone)=true then 1 else if (acF obj o.op&&o.guard.isNone&&(opK o'.op == 2&&o'.guard.isNone))=true then 2 else 0
 | _::o::o'::l=>abQ obj (o::o'::l)
def okS:Option (Option X×S)→Option S
 | some (none,s)=>some s
 | _=>none
def kM (obj:Nat→Bool) (o:Oper):Bool:=ik obj o.op&&o.guard.isNone
def stX (P:Program) (T:TT) (E:En) (ops:Array Oper) (t:Bool) (s:S) (i:Nat) (o:Oper):Option S :=
 if t=true then okS (dh P T E false ops s i o) else if kM E.obj o=true then mkS P E s o else okS (dh P T E true ops s i o)
def evD (P:Program) (T:TT) (E:En) (ops:Array Oper) (n:Nat):Nat→Bool→List Oper→S→Option S
 | _,_,[],s=>some s
 | k,b,o::l,s =>
  if (b&&(!decide (l.length<n)&&kM E.obj o))=true then none else match stX P T E ops (decide (l.length<n)) s k o with
   | some s'=>evD P T E ops n (k+1) (b||(!decide (l.length<n)&&kM E.obj o)) l s'
   | none=>none
def evR (P:Program) (T:TT) (E:En) (draw:Bool) (ops:Array Oper) (s:S):Option (Option X×S) :=
 if (draw&&tlB ops.toList)=true then agI P T E ops 0 ops.toList s
 else if (draw&&!(abQ E.obj ops.toList == 0))=true then (evD P T E ops (abQ E.obj ops.toList) 0 false ops.toList s).map fun s=>(none,s)
 else if (draw&&spB E.obj ops.toList)=true then alb P T E ops ops.toList s else abD P T E draw ops 0 ops.toList s
def apu (o:Oper):Bool:=match o.op,o.guard with
 | .extract _ _,none=>true
 | _,_=>false
def ajU (ops:Array Oper) (i:Nat):Bool:=match ops[i]?,ops[ops.size-1]? with
 | some o,some l=>apu o&&match fE l with
  | some d=>!(o.looksAt ops).contains d&&o.dst != some d
  | none=>true
 | _,_=>false
def amh (ops:Array Oper):Bool:=(List.range (ops.size-1)).all fun i=>ajU ops i||(List.range ops.size).any fun k=>decide (i<k)&&match ops[k]? with
 | some o=>!apu o&&o.after.any fun e=>Region.binds .any e&&e.on == i
 | none=>false
inductive Ex where
 | normal
 | exit (id:Nat)
 | ret
 | pan (x:X)
def agF (xs:List X) (obs:List Ob):S:={fr:=fun j=>xs.getD j (.of .undef),objs:=obs,clk:=1}
def ab4 (T:TT) (s:S):List ResultVar→Option (List X)
 | []=>some []
 | .tmp t::r=>(ab4 T s r).map (s.fr t::·)
 | .cell a t::r=>match acO T s.objs t (s.fr a),ab4 T s r with
  | some (x,_),some q=>some (x::q)
  | _,_=>none
def aev (m:Nat) (pan:Bool) (rs:List X) (objs:List Ob):Option An :=
 let refs:=aah objs 999 (X.refsL rs++((objs.take m).map Ob.refs).flatten) (List.range m)
 let ts:=(nub (X.toksL rs) []).filter fun t=>match t with
  | .nm ..=>true
  | .cell r _=>!decide (r∈refs)
 (jj (pos refs) (aa5 refs ts) objs refs).map fun obs=>⟨pan,X.trs (pos refs) (aa5 refs ts) rs,obs⟩
def afc (N:Nat) (o:Oper):Bool:=(match o.dst with
 | some d=>decide (d<N)
 | none=>true)&&match fE o with
 | some d=>decide (d<N)
 | none=>true
def afH (ops:Array Oper) (i:Nat):Bool:=match ops[i]? with
 | some o=>match fE o with
  | some d=>o.dst.isNone&&(List.range ops.size).all fun j=>j == i||match ops[j]? with
   | some oj=>!(oj.looksAt ops).contains d&&(fE oj != some d||(!eU oj.op&&o.after.any fun e=>Region.binds .any e&&e.on == j))
   | none=>true
  | none=>false
 | none=>false
def aix (ops:Array Oper):Bool:=(List.range ops.size).all fun i=>match ops[i]? with
 | some o=>!eU o.op||(jr ops.toList&&i+1 == ops.size)||afH ops i
 | none=>true
def ajE (ops:Array Oper) (k j:Nat):Bool:=match ops[k]? with
 | some o=>o.after.any fun e=>Region.binds .any e&&e.on == j
 | none=>false
def au6 (ops:Array Oper) (i m:Nat):Bool:=match ops[i]?,ops[m]? with
 | some o,some l=>(opK o.op == 4&&o.guard.isNone)&&match fE l with
  | some d=>!(o.looksAt ops).contains d&&o.dst != some d
  | none=>true
 | _,_=>false
def aiw (ops:Array Oper):Bool:=((List.range (ops.size-2)).all fun i=>(match ops[i]? with
 | some o=>!eU o.op
 | none=>true)&&(ajE ops (ops.size-2) i||au6 ops i (ops.size-2)))&&(List.range (ops.size-1)).all fun j=>ajE ops (ops.size-1) j
def wB (ops:Array Oper) (i:Nat):Nat→Nat→Bool
 | 0,_=>false
 | f+1,j=>match ops[j]? with
  | some o=>o.after.any fun e=>Region.binds .any e&&(e.on == i||wB ops i f e.on)
  | none=>false
def aDU (ops:Array Oper) (n:Nat):Bool:=(List.range ops.size).all fun t=>decide (t+n<ops.size)||(List.range t).all fun i=>wB ops i ops.size t
def aDy:Op→Bool
 | .call {callee:=.value (.func _),args:=args,..}=>args.isEmpty
 | _=>false
def aoh:Op→Bool
 | .lookup ..=>true
 | _=>false
def opP (ops:Array Oper) (p:Op→Bool) (i:Nat):Bool:=match ops[i]? with
 | some o=>p o.op
 | none=>false
def apw (ops:Array Oper):Bool:=(List.range ops.size).all fun m=>!opP ops aDy m||(List.range ops.size).all fun j=>!opP ops aoh j||wB ops m ops.size j
def aCN (N:Nat) (ops:Array Oper) (draw:Bool):Bool:=ops.all (afc N)&&(!draw||(Region.lexB .any ops&&(aDU ops (abQ (fun _=>true) ops.toList)&&apw ops)&&if tlB ops.toList then aiw ops else aix ops&&(!jr ops.toList||amh ops)))
def ad8 (N:Nat):Code→Bool
 | .region _ ops draw=>aCN N ops draw
 | .seq a b=>ad8 N a&&ad8 N b
 | .cond _ a b=>ad8 N a&&ad8 N b
 | .block _ c=>ad8 N c
 | .loop c=>ad8 N c
 | _=>true
def amu (P:Program) (f:Nat):Code:=match P.funcs[f]? with
 | some fn=>fn.body.getD .skip
 | none=>.skip
def ap4 (P:Program) (f:Nat):Nat:=match P.funcs[f]? with
 | some fn=>fn.ntmps
 | none=>0
def aed (P:Program) (f:Nat):List ResultVar:=match P.funcs[f]? with
 | some fn=>fn.results.toList
 | none=>[]
def aDL (P:Program) (f:Nat):Bool:=match P.funcs[f]? with
 | some fn=>fn.body.isSome&&ad8 fn.ntmps (fn.body.getD .skip)
 | none=>false
structure Pr where
 prim:Orc
 obj:Nat→Bool
 tk:Nat→Bool
 keep:Nat→Bool
 mt:String→Option Nat→Bool
def aoV (x:X):Option C→X
 | some c=>.of c
 | none=>x
def aiZ (x:X):X:=aoV x x.rd
def afN (keep:Bool) (rs:List X):List X:=match keep with
 | true=>rs
 | false=>rs.map aiZ
def amp (P:Program) (T:TT) (keep:Nat→Bool) (run:Code→S→Option (Ex×S)) (f:Nat) (xs:List X) (obs:List Ob):Option An :=
 if aDL P f=true∧xs.length≤ap4 P f then match run (amu P f) (agF xs obs) with
  | some (.normal,s)=>(ab4 T s (aed P f)).bind fun rs=>aev obs.length false (afN (keep f) rs) s.objs
  | some (.ret,s)=>(ab4 T s (aed P f)).bind fun rs=>aev obs.length false (afN (keep f) rs) s.objs
  | some (.pan x,s)=>aev obs.length true [x] s.objs
  | _=>none
 else none
def ao9 (P:Program) (T:TT) (pr:Pr) (run:Code→S→Option (Ex×S)):Orc:=fun f xs obs =>
 match pr.prim f xs obs with
 | some r=>some r
 | none=>amp P T pr.keep run f xs obs
def ajy (P:Program) (T:TT) (pr:Pr) (run:Code→S→Option (Ex×S)):En:=⟨ao9 P T pr run,pr.obj,pr.tk,pr.mt⟩
def evC (P:Program) (T:TT) (pr:Pr):Nat→Code→S→Option (Ex×S)
 | 0,_,_=>none
 | n+1,c,s=>match c with
  | .skip=>some (.normal,s)
  | .ret=>some (.ret,s)
  | .exit i=>some (.exit i,s)
  | .seq a b=>match evC P T pr n a s with
   | some (.normal,s')=>evC P T pr n b s'
   | r=>r
  | .block i c=>match evC P T pr n c s with
   | some (.exit j,s')=>some (if j=i then .normal else .exit j,s')
   | r=>r
  | .cond c a b=>match acZ (s.ev c) with
   | some true=>evC P T pr n a s
   | some false=>evC P T pr n b s
   | none=>none
  | .loop c=>match evC P T pr n c s with
   | some (.normal,s')=>evC P T pr n (.loop c) s'
   | r=>r
  | .region _ ops draw=>match evR P T (ajy P T pr (evC P T pr n)) draw ops s with
   | some (none,s')=>some (.normal,{s' with clk:=s'.clk+1})
   | some (some x,s')=>some (.pan x,{s' with clk:=s'.clk+1})
   | none=>none
  | _=>none
end Go.Pe
namespace Go.Pe
open Go.RowKit
abbrev Mem:=Nat→Nat→Option Value
mutual
def Rep (m:Mem):C→Value→Prop
 | .any,_=>True
 | .undef,v=>v=undef
 | .lit u,v=>v=u∧u.oneCell'=true
 | .sl cs n,v=>∃ a cap vs,v=.slice a n cap∧n≤cap∧cM m cs vs∧(vs≠[]→∃ b o,a=some ⟨b,o,none⟩∧∀ i u,vs[i]?=some u→m b (o+i)=some u)
 | .ref cs,v=>∃ b o vs,v=.pointer (some ⟨b,o,none⟩)∧cM m cs vs∧∀ i u,vs[i]?=some u→m b (o+i)=some u
 | .fn f caps,v=>∃ vs:List Value,v=.func (.func f) #[] vs.toArray∧cM m caps vs
 | .agg cs,v=>∃ vs:List Value,v=.agg vs.toArray∧(∀ u∈vs,u.oneCell'=true)∧cM m cs vs
 | .tup cs,v=>∃ vs:List Value,v=.tuple vs.toArray∧cM m cs vs
 | .ifc t c,v=>∃ u,v=.iface t u∧Rep m c u
def cM (m:Mem):List C→List Value→Prop
 | [],vs=>vs=[]
 | c::cs,vs=>∃ v r,vs=v::r∧Rep m c v∧cM m cs r
end
def Mem.le (m m':Mem):Prop:=∀ b o v,m b o=some v→m' b o=some v
theorem Mem.le_refl (m:Mem):m.le m:=fun _ _ _ h=>h
theorem Mem.le_trans {a b c:Mem} (h:a.le b) (h':b.le c):a.le c:=fun _ _ _ x=>h' _ _ _ (h _ _ _ x)
theorem Rep.mono {m m':Mem} (h:m.le m'):∀ (c:C) (v:Value),Rep m c v→Rep m' c v :=
 C.rec (motive_1:=fun c=>∀ v,Rep m c v→Rep m' c v) (motive_2:=fun cs=>∀ vs,cM m cs vs→cM m' cs vs)
  (fun _ _=>by simp[Rep]) (fun _ h=>by simpa [Rep] using h) (fun _ _ h=>by simpa [Rep] using h)
  (fun cs n ih v=>by
   simp only[Rep]
   rintro⟨a,cap,vs,rfl,hn,hl,hm⟩
   exact⟨a,cap,vs,rfl,hn,ih _ hl,fun hne=>by
    obtain⟨b,o,ha,hc⟩:=hm hne
    exact⟨b,o,ha,fun i u hu=>h _ _ _ (hc i u hu)⟩⟩)
  (fun cs ih v=>by
   simp only[Rep]
   rintro⟨b,o,vs,rfl,hl,hm⟩
   exact⟨b,o,vs,rfl,ih _ hl,fun i u hu=>h _ _ _ (hm i u hu)⟩)
  (fun f cs ih v=>by simp only[Rep];rintro⟨vs,rfl,hl⟩;exact⟨vs,rfl,ih _ hl⟩)
  (fun cs ih v=>by simp only[Rep];rintro⟨vs,rfl,h1,hl⟩;exact⟨vs,rfl,h1,ih _ hl⟩)
  (fun cs ih v=>by simp only[Rep];rintro⟨vs,rfl,hl⟩;exact⟨vs,rfl,ih _ hl⟩)
  (fun t c ih v=>by simp only[Rep];rintro⟨u,rfl,h⟩;exact⟨u,rfl,ih _ h⟩)
  (fun vs h=>by simpa [cM] using h)
  (fun c cs ih1 ih2 vs=>by simp only[cM];rintro⟨v,r,rfl,h1,h2⟩;exact⟨v,r,rfl,ih1 _ h1,ih2 _ h2⟩)
theorem cM.mono {m m':Mem} (h:m.le m'):∀ (cs:List C) (vs:List Value),cM m cs vs→cM m' cs vs
 | [],vs,hh=>by simpa [cM] using hh
 | c::cs,vs,hh=>by
  simp only[cM] at hh ⊢
  obtain⟨v,r,rfl,h1,h2⟩:=hh
  exact⟨v,r,rfl,Rep.mono h _ _ h1,cM.mono h _ _ h2⟩
theorem cM.length {m:Mem}:∀ {cs:List C} {vs:List Value},cM m cs vs→vs.length=cs.length
 | [],vs,h=>by simp only[cM] at h;simp[h]
 | c::cs,vs,h=>by
  simp only[cM] at h
  obtain⟨v,r,rfl,_,h2⟩:=h
  simp[cM.length h2]
theorem cM.get {m:Mem}:∀ {cs:List C} {vs:List Value},cM m cs vs→∀ (i:Nat) (c:C),cs[i]?=some c→∃ v,vs[i]?=some v∧Rep m c v
 | [],vs,h,i,c,hc=>by simp at hc
 | d::cs,vs,h,i,c,hc=>by
  simp only[cM] at h
  obtain⟨v,r,rfl,h1,h2⟩:=h
  cases i with
  | zero=>simp at hc;subst hc;exact⟨v,by simp,h1⟩
  | succ i=>simp at hc;simpa using cM.get h2 i c hc
theorem cM.drop {m:Mem}:∀ (k:Nat) {cs:List C} {vs:List Value},cM m cs vs→cM m (cs.drop k) (vs.drop k)
 | 0,cs,vs,h=>by simpa using h
 | k+1,[],vs,h=>by simp only[cM] at h;subst h;simp[cM]
 | k+1,c::cs,vs,h=>by
  simp only[cM] at h
  obtain⟨v,r,rfl,_,h2⟩:=h
  simpa using cM.drop k h2
theorem cM.take {m:Mem}:∀ (k:Nat) {cs:List C} {vs:List Value},cM m cs vs→cM m (cs.take k) (vs.take k)
 | 0,cs,vs,h=>by simp[cM]
 | k+1,[],vs,h=>by simp only[cM] at h;subst h;simp[cM]
 | k+1,c::cs,vs,h=>by
  simp only[cM] at h
  obtain⟨v,r,rfl,h1,h2⟩:=h
  simp only[abC,cM]
  exact⟨v,r.take k,rfl,h1,cM.take k h2⟩
theorem cM.append {m:Mem}:∀ {cs ds:List C} {vs us:List Value},cM m cs vs→cM m ds us→cM m (cs++ds) (vs++us)
 | [],ds,vs,us,h,h'=>by simp only[cM] at h;subst h;simpa using h'
 | c::cs,ds,vs,us,h,h'=>by
  simp only[cM] at h
  obtain⟨v,r,rfl,h1,h2⟩:=h
  simp only[bt,cM]
  exact⟨v,r++us,rfl,h1,cM.append h2 h'⟩
abbrev Own:=Tk→Option (Value×Nat×Nat×Nat)
structure Know where
 m:Mem
 μ:Nat→Option Nat
mutual
def bj (k:Know) (ow:Own):X→Value→Prop
 | .of c,v=>Rep k.m c v
 | .nil,v=>v=.slice none 0 0
 | .own t e z cs n,v=>ow t=some (v,e,z,n)∧cs.length=n*z∧Rep k.m (.sl cs n) v
 | .ptr r off,v=>∃ b,k.μ r=some b∧v=.pointer (some ⟨b,off,none⟩)
 | .mp r,v=>∃ b,k.μ r=some b∧v=.map (some b)
 | .clo f caps,v=>∃ vs:List Value,v=(if f % 2=0 then .func (.func (f / 2)) #[] vs.toArray else .func (.func (f / 2)) vs.toArray #[])∧bz k ow caps vs
 | .agg xs,v=>∃ vs:List Value,v=.agg vs.toArray∧(∀ u∈vs,u.oneCell'=true)∧bz k ow xs vs
 | .tup xs,v=>∃ vs:List Value,v=.tuple vs.toArray∧bz k ow xs vs
 | .nw none _ _,_=>True
 | .nw (some t) ty z,v=>∃ b,v=.pointer (some ⟨b,0,none⟩)∧ow t=some (.slice (some ⟨b,0,none⟩) 0 1,ty,z,0)
def bz (k:Know) (ow:Own):List X→List Value→Prop
 | [],vs=>vs=[]
 | x::xs,vs=>∃ v r,vs=v::r∧bj k ow x v∧bz k ow xs r
end
def Know.le (k k':Know):Prop:=k.m.le k'.m∧∀ r b,k.μ r=some b→k'.μ r=some b
theorem Know.le_refl (k:Know):k.le k:=⟨fun _ _ _ h=>h,fun _ _ h=>h⟩
theorem Know.le_trans {a b c:Know} (h:a.le b) (h':b.le c):a.le c:=⟨Mem.le_trans h.1 h'.1,fun _ _ x=>h'.2 _ _ (h.2 _ _ x)⟩
def Own.sub (ow ow':Own):Prop:=∀ t p,ow t=some p→ow' t=some p
theorem bj.mono {k k':Know} {ow ow':Own} (h:k.le k') (ho:ow.sub ow'):∀ (x:X) (v:Value),bj k ow x v→bj k' ow' x v :=
 X.rec (motive_1:=fun x=>∀ v,bj k ow x v→bj k' ow' x v) (motive_2:=fun xs=>∀ vs,bz k ow xs vs→bz k' ow' xs vs)
  (fun c v hh=>by simp only[bj] at hh ⊢;exact Rep.mono h.1 _ _ hh)
  (fun v hh=>by simpa only [bj] using hh)
  (fun t e z cs n v hh=>by simp only[bj] at hh ⊢;exact⟨ho _ _ hh.1,hh.2.1,Rep.mono h.1 _ _ hh.2.2⟩)
  (fun r off v hh=>by simp only[bj] at hh ⊢;obtain⟨b,hb,hv⟩:=hh;exact⟨b,h.2 _ _ hb,hv⟩)
  (fun r v hh=>by simp only[bj] at hh ⊢;obtain⟨b,hb,hv⟩:=hh;exact⟨b,h.2 _ _ hb,hv⟩)
  (fun f xs ih v hh=>by simp only[bj] at hh ⊢;obtain⟨vs,hv,hl⟩:=hh;exact⟨vs,hv,ih _ hl⟩)
  (fun xs ih v hh=>by simp only[bj] at hh ⊢;obtain⟨vs,hv,h1,hl⟩:=hh;exact⟨vs,hv,h1,ih _ hl⟩)
  (fun xs ih v hh=>by simp only[bj] at hh ⊢;obtain⟨vs,hv,hl⟩:=hh;exact⟨vs,hv,ih _ hl⟩)
  (fun o ty z v hh=>by
   cases o with
   | none=>simp[bj]
   | some t=>simp only[bj] at hh ⊢;obtain⟨b,hv,hl⟩:=hh;exact⟨b,hv,ho _ _ hl⟩)
  (fun vs hh=>by simpa only [bz] using hh)
  (fun x xs ih1 ih2 vs hh=>by simp only[bz] at hh ⊢;obtain⟨v,r,hv,h1,h2⟩:=hh;exact⟨v,r,hv,ih1 _ h1,ih2 _ h2⟩)
theorem bz.mono {k k':Know} {ow ow':Own} (h:k.le k') (ho:ow.sub ow'):∀ (xs:List X) (vs:List Value),bz k ow xs vs→bz k' ow' xs vs
 | [],vs,hh=>by simpa only [bz] using hh
 | x::xs,vs,hh=>by
  simp only[bz] at hh ⊢
  obtain⟨v,r,hv,h1,h2⟩:=hh
  exact⟨v,r,hv,bj.mono h ho _ _ h1,bz.mono h ho _ _ h2⟩
def Own.del (ow:Own) (t:Tk):Own:=fun t'=>if t'=t then none else ow t'
theorem bj.drop {k:Know} {ow:Own} (t:Tk):∀ (x:X) (v:Value),bj k ow x v→bj k (ow.del t) (x.drop t) v :=
 X.rec (motive_1:=fun x=>∀ v,bj k ow x v→bj k (ow.del t) (x.drop t) v) (motive_2:=fun xs=>∀ vs,bz k ow xs vs→bz k (ow.del t) (X.drops t xs) vs)
  (fun c v hh=>by simpa only [X.drop,bj] using hh)
  (fun v hh=>by simpa only [X.drop,bj] using hh)
  (fun t' e z cs n v hh=>by
   simp only[X.drop]
   split
   .simp only[bj] at hh ⊢;exact hh.2.2
   .rename_i hne
    simp only[bj] at hh ⊢
    exact⟨by simp only[Own.del,hne,aQ];exact hh.1,hh.2⟩)
  (fun r off v hh=>by simpa only [X.drop,bj] using hh)
  (fun r v hh=>by simpa only [X.drop,bj] using hh)
  (fun f xs ih v hh=>by simp only[X.drop,bj] at hh ⊢;obtain⟨vs,hv,hl⟩:=hh;exact⟨vs,hv,ih _ hl⟩)
  (fun xs ih v hh=>by simp only[X.drop,bj] at hh ⊢;obtain⟨vs,hv,h1,hl⟩:=hh;exact⟨vs,hv,h1,ih _ hl⟩)
  (fun xs ih v hh=>by simp only[X.drop,bj] at hh ⊢;obtain⟨vs,hv,hl⟩:=hh;exact⟨vs,hv,ih _ hl⟩)
  (fun o ty z v hh=>by
   cases o with
   | none=>simp[X.drop,afe,bj]
   | some t' =>
    simp only[X.drop,afe]
    split
    .simp[bj]
    .rename_i hne
     simp only[bj] at hh ⊢
     obtain⟨b,hv,hl⟩:=hh
     exact⟨b,hv,by simp only[Own.del,hne,aQ];exact hl⟩)
  (fun vs hh=>by simpa only [X.drops,bz] using hh)
  (fun x xs ih1 ih2 vs hh=>by simp only[X.drops,bz] at hh ⊢;obtain⟨v,r,hv,h1,h2⟩:=hh;exact⟨v,r,hv,ih1 _ h1,ih2 _ h2⟩)
theorem bz.drop {k:Know} {ow:Own} (t:Tk):∀ (xs:List X) (vs:List Value),bz k ow xs vs→bz k (ow.del t) (X.drops t xs) vs
 | [],vs,hh=>by simpa only [X.drops,bz] using hh
 | x::xs,vs,hh=>by
  simp only[X.drops,bz] at hh ⊢
  obtain⟨v,r,hv,h1,h2⟩:=hh
  exact⟨v,r,hv,bj.drop t _ _ h1,bz.drop t _ _ h2⟩
theorem bz.length {k:Know} {ow:Own}:∀ {xs:List X} {vs:List Value},bz k ow xs vs→vs.length=xs.length
 | [],vs,h=>by simp only[bz] at h;simp[h]
 | c::cs,vs,h=>by
  simp only[bz] at h
  obtain⟨v,r,rfl,_,h2⟩:=h
  simp[bz.length h2]
theorem bz.get {k:Know} {ow:Own}:∀ {xs:List X} {vs:List Value},bz k ow xs vs→∀ (i:Nat) (x:X),xs[i]?=some x→∃ v,vs[i]?=some v∧bj k ow x v
 | [],vs,h,i,c,hc=>by simp at hc
 | d::cs,vs,h,i,c,hc=>by
  simp only[bz] at h
  obtain⟨v,r,rfl,h1,h2⟩:=h
  cases i with
  | zero=>simp at hc;subst hc;exact⟨v,by simp,h1⟩
  | succ i=>simp at hc;simpa using bz.get h2 i c hc
theorem bz.dropN {k:Know} {ow:Own}:∀ (n:Nat) {xs:List X} {vs:List Value},bz k ow xs vs→bz k ow (xs.drop n) (vs.drop n)
 | 0,cs,vs,h=>by simpa using h
 | n+1,[],vs,h=>by simp only[bz] at h;subst h;simp[bz]
 | n+1,c::cs,vs,h=>by
  simp only[bz] at h
  obtain⟨v,r,rfl,_,h2⟩:=h
  simpa using bz.dropN n h2
theorem bz.takeN {k:Know} {ow:Own}:∀ (n:Nat) {xs:List X} {vs:List Value},bz k ow xs vs→bz k ow (xs.take n) (vs.take n)
 | 0,cs,vs,h=>by simp[bz]
 | n+1,[],vs,h=>by simp only[bz] at h;subst h;simp[bz]
 | n+1,c::cs,vs,h=>by
  simp only[bz] at h
  obtain⟨v,r,rfl,h1,h2⟩:=h
  simp only[abC,bz]
  exact⟨v,r.take n,rfl,h1,bz.takeN n h2⟩
theorem bz.append {k:Know} {ow:Own}:∀ {cs ds:List X} {vs us:List Value},bz k ow cs vs→bz k ow ds us→bz k ow (cs++ds) (vs++us)
 | [],ds,vs,us,h,h'=>by simp only[bz] at h;subst h;simpa using h'
 | c::cs,ds,vs,us,h,h'=>by
  simp only[bz] at h
  obtain⟨v,r,rfl,h1,h2⟩:=h
  simp only[bt,bz]
  exact⟨v,r++us,rfl,h1,bz.append h2 h'⟩
theorem bz.of {k:Know} {ow:Own}:∀ {cs:List C} {vs:List Value},cM k.m cs vs→bz k ow (cs.map .of) vs
 | [],vs,h=>by simpa [cM,bz] using h
 | c::cs,vs,h=>by
  simp only[cM] at h
  obtain⟨v,r,rfl,h1,h2⟩:=h
  simp only[aV,bz,bj]
  exact⟨v,r,rfl,h1,bz.of h2⟩
def ae1 {k:Know} {ow:Own}:∀ (x:X) (c:C) (v:Value),x.rd=some c→bj k ow x v→Rep k.m c v :=
 X.rec (motive_1:=fun x=>∀ c v,x.rd=some c→bj k ow x v→Rep k.m c v) (motive_2:=fun xs=>∀ cs vs,X.rds xs=some cs→bz k ow xs vs→cM k.m cs vs)
  (fun c c' v hr hh=>by simp only[X.rd,ae] at hr;subst hr;simpa only [bj] using hh)
  (fun c' v hr hh=>by
   simp only[X.rd,ae] at hr
   subst hr
   simp only[bj] at hh
   subst hh
   simp only[Rep]
   exact⟨none,0,[],rfl,aM _,by simp[cM],fun h=>absurd rfl h⟩)
  (fun t e z cs n c' v hr hh=>by
   simp only[X.rd,ae] at hr
   subst hr
   simp only[bj] at hh
   exact hh.2.2)
  (fun r off c' v hr hh=>by simp[X.rd] at hr)
  (fun r c' v hr hh=>by simp[X.rd] at hr)
  (fun f xs ih c' v hr hh=>by simp[X.rd] at hr)
  (fun xs ih c' v hr hh=>by
   simp only[X.rd,aP] at hr
   obtain⟨cs,hcs,rfl⟩:=hr
   simp only[bj] at hh
   obtain⟨vs,rfl,h1,hl⟩:=hh
   simp only[Rep]
   exact⟨vs,rfl,h1,ih _ _ hcs hl⟩)
  (fun xs ih c' v hr hh=>by simp[X.rd] at hr)
  (fun t ty z c' v hr hh=>by simp[X.rd] at hr)
  (fun cs vs hr hh=>by
   simp only[X.rds,ae] at hr
   subst hr
   simpa only [bz,cM] using hh)
  (fun x xs ih1 ih2 cs vs hr hh=>by
   simp only[X.rds] at hr
   split at hr
   .rename_i c cs' h1 h2
    simp only[ae] at hr
    subst hr
    simp only[bz] at hh
    obtain⟨v,r,rfl,hv,hl⟩:=hh
    simp only[cM]
    exact⟨v,r,rfl,ih1 _ _ h1 hv,ih2 _ _ h2 hl⟩
   .cases hr)
theorem akL {k:Know} {ow:Own}:∀ (xs:List X) (cs:List C) (vs:List Value),X.rds xs=some cs→bz k ow xs vs→cM k.m cs vs
 | [],cs,vs,hr,hh=>by
  simp only[X.rds,ae] at hr
  subst hr
  simpa only [bz,cM] using hh
 | x::xs,cs,vs,hr,hh=>by
  simp only[X.rds] at hr
  split at hr
  .rename_i c cs' h1 h2
   simp only[ae] at hr
   subst hr
   simp only[bz] at hh
   obtain⟨v,r,rfl,hv,hl⟩:=hh
   simp only[cM]
   exact⟨v,r,rfl,ae1 _ _ _ h1 hv,akL _ _ _ h2 hl⟩
  .cases hr
def ago {k:Know} {ow:Own} {x:X} {xs:List X} {v:Value} (hc:eu x=some xs) (h:bj k ow x v) :
  bz k ow xs v.cells.toList∧∀ u∈v.cells.toList,u.oneCell'=true:=by
 have single:∀ (x:X),bj k ow x v→v.oneCell'=true→bz k ow [x] v.cells.toList∧∀ u∈v.cells.toList,u.oneCell'=true:=by
  intro x hx h1
  have:v.cells=#[v]:=by cases v <;> simp_all [Value.cells,Value.oneCell']
  rw[this]
  simp only[bz]
  exact⟨⟨v,[],rfl,hx,rfl⟩,by simpa using h1⟩
 cases x with
 | of c =>
  cases c with
  | any=>simp[eu] at hc
  | undef=>simp[eu] at hc
  | tup cs=>simp[eu] at hc
  | agg cs =>
   simp only[eu,ae] at hc
   subst hc
   simp only[bj,Rep] at h
   obtain⟨vs,rfl,h1,hl⟩:=h
   exact⟨by simpa [Value.cells] using bz.of hl,by simpa [Value.cells] using h1⟩
  | ifc t c =>
   simp only[eu,ae] at hc
   subst hc
   exact single _ h (by simp only[bj,Rep] at h;obtain⟨u,rfl,_⟩:=h;rfl)
  | lit u =>
   simp only[eu,ae] at hc
   subst hc
   exact single _ h (by simp only[bj,Rep] at h;rw[h.1];exact h.2)
  | sl cs n =>
   simp only[eu,ae] at hc
   subst hc
   exact single _ h (by simp only[bj,Rep] at h;obtain⟨a,cap,vs,rfl,_⟩:=h;rfl)
  | ref cs =>
   simp only[eu,ae] at hc
   subst hc
   exact single _ h (by simp only[bj,Rep] at h;obtain⟨a,cap,vs,rfl,_⟩:=h;rfl)
  | fn f cs =>
   simp only[eu,ae] at hc
   subst hc
   exact single _ h (by simp only[bj,Rep] at h;obtain⟨vs,rfl,_⟩:=h;rfl)
 | nil =>
  simp only[eu,ae] at hc
  subst hc
  exact single _ h (by simp only[bj] at h;subst h;rfl)
 | own t e z cs n =>
  simp only[eu,ae] at hc
  subst hc
  exact single _ h (by simp only[bj,Rep] at h;obtain⟨_,_,a,cap,vs,rfl,_⟩:=h;rfl)
 | ptr r off =>
  simp only[eu,ae] at hc
  subst hc
  exact single _ h (by simp only[bj] at h;obtain⟨b,_,rfl⟩:=h;rfl)
 | mp r =>
  simp only[eu,ae] at hc
  subst hc
  exact single _ h (by simp only[bj] at h;obtain⟨b,_,rfl⟩:=h;rfl)
 | clo f caps =>
  simp only[eu,ae] at hc
  subst hc
  exact single _ h (by simp only[bj] at h;obtain⟨b,rfl,_⟩:=h;split <;> rfl)
 | agg xs =>
  simp only[eu,ae] at hc
  subst hc
  simp only[bj] at h
  obtain⟨vs,rfl,h1,hl⟩:=h
  exact⟨by simpa [Value.cells] using hl,by simpa [Value.cells] using h1⟩
 | tup xs=>simp[eu] at hc
 | nw t ty z=>simp[eu] at hc
structure Ren (σ:Nat→Option Nat) (ρ:Tk→Option Tk) (k k':Know) (ow ow':Own):Prop where
 m:k.m.le k'.m
 μ:∀ r b r',k.μ r=some b→σ r=some r'→k'.μ r'=some b
 ow:∀ t p t',ow t=some p→ρ t=some t'→ow' t'=some p
theorem bj.tr {σ:Nat→Option Nat} {ρ:Tk→Option Tk} {k k':Know} {ow ow':Own} (h:Ren σ ρ k k' ow ow'):∀ (x:X) (v:Value),bj k ow x v→bj k' ow' (x.tr σ ρ) v :=
 X.rec (motive_1:=fun x=>∀ v,bj k ow x v→bj k' ow' (x.tr σ ρ) v) (motive_2:=fun xs=>∀ vs,bz k ow xs vs→bz k' ow' (X.trs σ ρ xs) vs)
  (fun c v hh=>by simp only[bj,X.tr] at hh ⊢;exact Rep.mono h.m _ _ hh)
  (fun v hh=>by simpa only [bj,X.tr] using hh)
  (fun t e z cs n v hh=>by
   simp only[bj,X.tr] at hh ⊢
   split
   .rename_i t' ht
    simp only[bj]
    exact⟨h.ow _ _ _ hh.1 ht,hh.2.1,Rep.mono h.m _ _ hh.2.2⟩
   .simp only[bj];exact Rep.mono h.m _ _ hh.2.2)
  (fun r off v hh=>by
   simp only[bj,X.tr] at hh ⊢
   obtain⟨b,hb,hv⟩:=hh
   split
   .rename_i r' hr;simp only[bj];exact⟨b,h.μ _ _ _ hb hr,hv⟩
   .simp[bj,Rep])
  (fun r v hh=>by
   simp only[bj,X.tr] at hh ⊢
   obtain⟨b,hb,hv⟩:=hh
   split
   .rename_i r' hr;simp only[bj];exact⟨b,h.μ _ _ _ hb hr,hv⟩
   .simp[bj,Rep])
  (fun f xs ih v hh=>by simp only[bj,X.tr] at hh ⊢;obtain⟨vs,hv,hl⟩:=hh;exact⟨vs,hv,ih _ hl⟩)
  (fun xs ih v hh=>by simp only[bj,X.tr] at hh ⊢;obtain⟨vs,hv,h1,hl⟩:=hh;exact⟨vs,hv,h1,ih _ hl⟩)
  (fun xs ih v hh=>by simp only[bj,X.tr] at hh ⊢;obtain⟨vs,hv,hl⟩:=hh;exact⟨vs,hv,ih _ hl⟩)
  (fun o ty z v hh=>by
   cases o with
   | none=>simp[X.tr,bj]
   | some t =>
    simp only[bj] at hh
    obtain⟨b,hv,hl⟩:=hh
    show bj k' ow' (.nw (ρ t) ty z) v
    cases ht:ρ t with
    | none=>simp[bj]
    | some t'=>simp only[bj];exact⟨b,hv,h.ow _ _ _ hl ht⟩)
  (fun vs hh=>by simpa only [bz,X.trs] using hh)
  (fun x xs ih1 ih2 vs hh=>by simp only[bz,X.trs] at hh ⊢;obtain⟨v,r,hv,h1,h2⟩:=hh;exact⟨v,r,hv,ih1 _ h1,ih2 _ h2⟩)
theorem bz.tr {σ:Nat→Option Nat} {ρ:Tk→Option Tk} {k k':Know} {ow ow':Own} (h:Ren σ ρ k k' ow ow'):∀ (xs:List X) (vs:List Value),bz k ow xs vs→bz k' ow' (X.trs σ ρ xs) vs
 | [],vs,hh=>by simpa only [bz,X.trs] using hh
 | x::xs,vs,hh=>by
  simp only[bz,X.trs] at hh ⊢
  obtain⟨v,r,hv,h1,h2⟩:=hh
  exact⟨v,r,hv,bj.tr h _ _ h1,bz.tr h _ _ h2⟩
theorem adP {α:Type} [DecidableEq α]:∀ {l:List α} {a:α} {i:Nat},pos l a=some i→l[i]?=some a
 | [],a,i,h=>by simp[pos] at h
 | b::l,a,i,h=>by
  simp only[pos] at h
  split at h
  .rename_i e
   simp only[ae] at h
   subst h;subst e
   rfl
  .simp only[aP] at h
   obtain⟨j,hj,rfl⟩:=h
   simpa using adP hj
theorem an4 {α:Type} [DecidableEq α]:∀ {l:List α} {a:α},pos l a=none→a∉l
 | [],a,_=>by simp
 | b::l,a,h=>by
  simp only[pos] at h
  split at h
  .cases h
  .rename_i e
   simp only[Option.map_eq_none_iff] at h
   have:=an4 h
   simp only[cY,acn]
   exact⟨fun e'=>e e'.symm,this⟩
theorem ai4 {α:Type} [DecidableEq α]:∀ (l seen:List α),seen.Nodup→(nub l seen).Nodup
 | [],seen,h=>h
 | a::l,seen,h=>by
  simp only[nub]
  split
  .exact ai4 l seen h
  .rename_i hn
   refine ai4 l _ ?_
   rw[List.nodup_append]
   exact⟨h,by simp,fun x hx y hy=>by simp at hy;subst hy;exact fun e=>hn (e▸hx)⟩
theorem ahg (objs:List Ob):∀ (n:Nat) (todo seen:List Nat),seen.Nodup→(aah objs n todo seen).Nodup
 | 0,_,seen,h=>h
 | _+1,[],seen,h=>h
 | n+1,r::todo,seen,h=>by
  simp only[aah]
  split
  .exact ahg objs n todo seen h
  .rename_i hn
   refine ahg objs n _ _ ?_
   rw[List.nodup_append]
   exact⟨h,by simp,fun x hx y hy=>by simp at hy;subst hy;exact fun e=>hn (e▸hx)⟩
theorem ajp (objs:List Ob):∀ (n:Nat) (todo seen:List Nat),∃ q,aah objs n todo seen=seen++q
 | 0,_,seen=>⟨[],by simp[aah]⟩
 | _+1,[],seen=>⟨[],by simp[aah]⟩
 | n+1,r::todo,seen=>by
  simp only[aah]
  split
  .exact ajp objs n todo seen
  .obtain⟨q,hq⟩:=ajp objs n (((objs[r]?).map Ob.refs).getD []++todo) (seen++[r])
   exact⟨r::q,by rw[hq];simp⟩
structure GP where
 holds:World→Prop
 blk:Nat→Prop
 keep:∀ w w',holds w→(∀ b,blk b→w'.heap[b]?=w.heap[b]?)→holds w'
structure Base where
 G:GP
 m:Mem
 mod:Nat→Prop
structure Keeps (M:Nat→Prop) (w w':World):Prop where
 os:w'.os=w.os
 tape:w'.tape=w.tape
 output:w'.output=w.output
 size:w.heap.size≤w'.heap.size
 block:∀ b,b<w.heap.size→¬ M b→w'.heap[b]?=w.heap[b]?
theorem Keeps.refl (M:Nat→Prop) (w:World):Keeps M w w:=⟨rfl,rfl,rfl,aM _,fun _ _ _=>rfl⟩
theorem Keeps.trans {M:Nat→Prop} {a b c:World} (h:Keeps M a b) (h':Keeps M b c):Keeps M a c :=
 ⟨h'.os.trans h.os,h'.tape.trans h.tape,h'.output.trans h.output,aaS h.size h'.size,fun x hx hm=>(h'.block x (fq hx h.size) hm).trans (h.block x hx hm)⟩
theorem Keeps.below {M:Nat→Prop} {w w':World} (h:Below w.heap.size w w'):Keeps M w w':=⟨h.os,h.tape,h.output,h.size,fun b hb _=>h.block b hb⟩
def ag8 (M:Nat→Prop) (w0:World) (b:Nat):Prop:=w0.heap.size≤b∨M b
def ady (k:Know) (ow:Own) (w:World) (b:Nat):Ob→Prop
 | .var ty xs=>∃ (vs:List Value),w.heap[b]?=some (.cells vs.toArray ty (0,0))∧(∀ u∈vs,u.oneCell'=true)∧bz k ow xs vs
 | .map es=>∃ (ms:Array MapEntry) (cl:Nat),w.heap[b]?=some (.map ms cl)∧ms.toList.map (·.key)=es.map (·.1)∧cM k.m (es.map (·.2)) (ms.toList.map (·.val))
structure Hp (M0:Base) (k:Know) (ow:Own) (w0 w:World) (objs:List Ob):Prop where
 good:M0.G.holds w0∧∀ b,M0.G.blk b→b<w0.heap.size∧¬ M0.mod b
 below:Keeps M0.mod w0 w
 mem:∀ b o v,k.m b o=some v→w.cell? ⟨b,o,none⟩=some v∧v.oneCell'=true
 obj:∀ r ob,objs[r]?=some ob→∃ b,k.μ r=some b∧ag8 M0.mod w0 b∧b<w.heap.size∧(∀ o,k.m b o=none)∧ady k ow w b ob
 dom:∀ r b,k.μ r=some b→r<objs.length
 inj:∀ r r' b,k.μ r=some b→k.μ r'=some b→r=r'
 tok:∀ t v e z n,ow t=some (v,e,z,n)→(∃ xs,w.ownsRow 0 e z v n xs)∧∀ g,v.ownBlock=some g→ag8 M0.mod w0 g∧(∀ o,n*z≤o→k.m g o=none)∧∀ r,k.μ r≠some g
 tokne:∀ t t' v e z n v' e' z' n',ow t=some (v,e,z,n)→ow t'=some (v',e',z',n')→t≠t'→∀ g,v.ownBlock=some g→v'.ownBlock≠some g
 m0:∀ b o v,k.m b o=some v→b<w0.heap.size→¬ M0.mod b→M0.m b o=some v
def Tk.older (clk:Nat) (done:Nat→Prop):Tk→Prop
 | .nm c ix _=>c<clk∨(c=clk∧done ix)
 | .cell ..=>True
structure Sim (M0:Base) (k:Know) (ow:Own) (done:Nat→Prop) (w0 w:World) (N:Nat) (s:S) (tmps:Array Value):Prop extends Hp M0 k ow w0 w s.objs where
 size:tmps.size=N
 fr:∀ j,bj k ow (s.fr j) (tmps.getD j undef)
 fresh:∀ t p,ow t=some p→t.older s.clk done
 cells:∀ r off p,ow (.cell r off)=some p→r<s.objs.length
def ahA {k:Know} {w:World} (h:∀ b o v,k.m b o=some v→w.cell? ⟨b,o,none⟩=some v∧v.oneCell'=true) {b o:Nat} {v:Value} (hm:k.m b o=some v):b<w.heap.size :=
 World.block_lt_of_cell? (a:=⟨b,o,none⟩) w (h _ _ _ hm).1
def acD {w w':World} {B e z:Nat} {v:Value} {n:Nat} {xs:List Value} (h:∀ g,v.ownBlock=some g→g<w.heap.size→w'.heap[g]?=w.heap[g]?) (ho:w.ownsRow B e z v n xs):w'.ownsRow B e z v n xs:=by
 refine⟨ho.1,?_⟩
 rcases ho.2 with h2|⟨g,cap,cur,hv,hg,hh,r⟩
 .exact .inl h2
 .exact .inr ⟨g,cap,cur,hv,hg,by rw[h g (by rw[hv];rfl) (Array.getElem?_eq_some_iff.1 hh).1];exact hh,r⟩
def aCL {w:World} {B e z:Nat} {v:Value} {n:Nat} {xs:List Value} (ho:w.ownsRow B e z v n xs) {g:Nat} (hg:v.ownBlock=some g):g<w.heap.size:=(ho.lt g hg).2
theorem ady.keep {k:Know} {ow:Own} {w w':World} {b:Nat} {ob:Ob} (hb:w'.heap[b]?=w.heap[b]?) (h:ady k ow w b ob):ady k ow w' b ob:=by
 cases ob <;> simpa only [ady,hb] using h
theorem ady.mono {k k':Know} {ow ow':Own} {w:World} {b:Nat} {ob:Ob} (hk:k.le k') (ho:ow.sub ow') (h:ady k ow w b ob):ady k' ow' w b ob:=by
 cases ob with
 | var ty xs =>
  obtain⟨vs,h1,h2,h3⟩:=h
  exact⟨vs,h1,h2,bz.mono hk ho _ _ h3⟩
 | map es =>
  obtain⟨ms,cl,h1,h2,h3⟩:=h
  exact⟨ms,cl,h1,h2,cM.mono hk.1 _ _ h3⟩
theorem ady.tr {σ:Nat→Option Nat} {ρ:Tk→Option Tk} {k k':Know} {ow ow':Own} (hn:Ren σ ρ k k' ow ow') {w:World} {b:Nat} {ob:Ob} (h:ady k ow w b ob):ady k' ow' w b (ob.tr σ ρ):=by
 cases ob with
 | var ty xs =>
  obtain⟨vs,h1,h2,h3⟩:=h
  exact⟨vs,h1,h2,bz.tr hn _ _ h3⟩
 | map es =>
  obtain⟨ms,cl,h1,h2,h3⟩:=h
  exact⟨ms,cl,h1,h2,cM.mono hn.m _ _ h3⟩
theorem ady.drop {k:Know} {ow:Own} {w:World} {b:Nat} {ob:Ob} (t:Tk) (h:ady k ow w b ob):ady k (ow.del t) w b (ob.drop t):=by
 cases ob with
 | var ty xs =>
  obtain⟨vs,h1,h2,h3⟩:=h
  exact⟨vs,h1,h2,bz.drop t _ _ h3⟩
 | map es=>exact h
section
variable {M0:Base} {k:Know} {ow:Own} {done:Nat→Prop} {w0 w w':World} {N:Nat} {s:S} {tmps:Array Value} {objs:List Ob}
theorem Hp.lt (h:Hp M0 k ow w0 w objs) {r b:Nat} (hr:k.μ r=some b):ag8 M0.mod w0 b∧b<w.heap.size∧∀ o,k.m b o=none:=by
 obtain⟨b',h2,h3,h4,h5,_⟩:=h.obj r _ (bK (h.dom r b hr))
 obtain rfl:=bn (h2.symm.trans hr)
 exact⟨h3,h4,h5⟩
theorem Hp.tlt (h:Hp M0 k ow w0 w objs) {t:Tk} {v:Value} {e z n:Nat} (ht:ow t=some (v,e,z,n)) {g:Nat} (hg:v.ownBlock=some g):ag8 M0.mod w0 g∧g<w.heap.size:=by
 obtain⟨⟨xs,h1⟩,h2⟩:=h.tok t v e z n ht
 exact⟨(h2 g hg).1,aCL h1 hg⟩
theorem Hp.table (h:Hp M0 k ow w0 w objs):M0.G.holds w:=M0.G.keep w0 w h.good.1 fun b hb=>h.below.block b (h.good.2 b hb).1 (h.good.2 b hb).2
theorem Hp.grow (h:Hp M0 k ow w0 w objs) (hb:Below w.heap.size w w'):Hp M0 k ow w0 w' objs where
 good:=h.good
 below:=h.below.trans (.below hb)
 mem:=fun b o v hm=>by
  obtain⟨h1,h2⟩:=h.mem b o v hm
  exact⟨(hb.cell (p:=⟨b,o,none⟩) (ahA h.mem hm)).trans h1,h2⟩
 obj:=fun r ob hr=>by
  obtain⟨b,h1,h2,h3,h4,h5⟩:=h.obj r ob hr
  exact⟨b,h1,h2,fq h3 hb.size,h4,h5.keep (hb.block b h3)⟩
 dom:=h.dom
 inj:=h.inj
 tok:=fun t v e z n ht=>by
  obtain⟨⟨xs,h1⟩,h2⟩:=h.tok t v e z n ht
  exact⟨⟨xs,acD (fun g _ hg=>hb.block g hg) h1⟩,h2⟩
 tokne:=h.tokne
 m0:=h.m0
theorem Sim.grow (h:Sim M0 k ow done w0 w N s tmps) (hb:Below w.heap.size w w'):Sim M0 k ow done w0 w' N s tmps :=
 {h.toHp.grow hb with size:=h.size,fr:=h.fr,fresh:=h.fresh,cells:=h.cells}
theorem Sim.put (h:Sim M0 k ow done w0 w N s tmps) (d:Option Nat) (hd:∀ j,d=some j→j<N) {x:X} {v:Value} (hx:bj k ow x v) :
  Sim M0 k ow done w0 w N (s.put d x) (Act.put ⟨tmps,[]⟩ d v).tmps:=by
 cases d with
 | none=>exact h
 | some d =>
  have hlt:=hd d rfl
  refine {h.toHp with size:=by simp[Act.put,h.size],fr:=fun j=>?_,fresh:=h.fresh,cells:=h.cells}
  simp only[S.put,upd,Act.put]
  by_cases hj:j=d
  .subst hj
   simp only[aA]
   have:(tmps.setIfInBounds j v).getD j undef=v:=by simp[h.size,hlt]
   rw[this]
   exact hx
  .rw[aj hj]
   have:(tmps.setIfInBounds d v).getD j undef=tmps.getD j undef:=by
    simp[Array.getElem?_setIfInBounds_ne (d5 hj)]
   rw[this]
   exact h.fr j
theorem Sim.del (h:Sim M0 k ow done w0 w N s tmps) (t:Tk):Sim M0 k (ow.del t) done w0 w N (s.drop (some t)) tmps where
 good:=h.good
 size:=h.size
 below:=h.below
 fr:=fun j=>bj.drop t _ _ (h.fr j)
 mem:=h.mem
 obj:=fun r ob hr=>by
  simp only[S.drop,fA,aP] at hr
  obtain⟨ob',h1,rfl⟩:=hr
  obtain⟨b,h2,h3,h4,h5,h6⟩:=h.obj r ob' h1
  exact⟨b,h2,h3,h4,h5,h6.drop t⟩
 dom:=fun r b hr=>by simpa [S.drop] using h.dom r b hr
 inj:=h.inj
 tok:=fun t' v e z n ht=>by
  simp only[Own.del] at ht
  split at ht
  .cases ht
  .exact h.tok t' v e z n ht
 tokne:=fun t t' v e z n v' e' z' n' ht ht'=>by
  simp only[Own.del] at ht ht'
  split at ht
  .cases ht
  .split at ht'
   .cases ht'
   .exact h.tokne t t' v e z n v' e' z' n' ht ht'
 fresh:=fun t' p ht=>by
  simp only[Own.del] at ht
  split at ht
  .cases ht
  .exact h.fresh t' p ht
 cells:=fun r off p ht=>by
  simp only[Own.del] at ht
  split at ht
  .cases ht
  .simpa [S.drop] using h.cells r off p ht
 m0:=h.m0
def Own.add (ow:Own) (t:Tk) (p:Value×Nat×Nat×Nat):Own:=fun t'=>if t'=t then some p else ow t'
theorem Own.sub_add {ow:Own} {t:Tk} {p:Value×Nat×Nat×Nat} (h:ow t=none):ow.sub (ow.add t p):=fun t' q hq=>by
 simp only[Own.add]
 split
 .rename_i e;subst e;rw[h] at hq;cases hq
 .exact hq
theorem Sim.add (h:Sim M0 k ow done w0 w N s tmps) {c ix i:Nat} {v:Value} {e z n:Nat} {xs:List Value} (hn:ow (.nm c ix i)=none)
  (hrow:w.ownsRow 0 e z v n xs) (hm:∀ g,v.ownBlock=some g→ag8 M0.mod w0 g∧(∀ o,n*z≤o→k.m g o=none)∧∀ r,k.μ r≠some g)
  (hne:∀ t' v' e' z' n',ow t'=some (v',e',z',n')→∀ g,v.ownBlock=some g→v'.ownBlock≠some g)
  (hf:c<s.clk∨(c=s.clk∧done ix)):Sim M0 k (ow.add (.nm c ix i) (v,e,z,n)) done w0 w N s tmps where
 good:=h.good
 size:=h.size
 below:=h.below
 fr:=fun j=>bj.mono (Know.le_refl k) (Own.sub_add hn) _ _ (h.fr j)
 mem:=h.mem
 obj:=fun r ob hr=>by
  obtain⟨b,h2,h3,h4,h5,h6⟩:=h.obj r ob hr
  exact⟨b,h2,h3,h4,h5,h6.mono (Know.le_refl k) (Own.sub_add hn)⟩
 dom:=h.dom
 inj:=h.inj
 tok:=fun t' v' e' z' n' ht=>by
  simp only[Own.add] at ht
  split at ht
  .simp only[dX] at ht
   obtain⟨rfl,rfl,rfl,rfl⟩:=ht
   exact⟨⟨xs,hrow⟩,hm⟩
  .exact h.tok t' v' e' z' n' ht
 tokne:=fun t1 t2 v1 e1 z1 n1 v2 e2 z2 n2 h1 h2 hne' g hg hg'=>by
  simp only[Own.add] at h1 h2
  split at h1
  .rename_i e1'
   simp only[dX] at h1
   obtain⟨rfl,rfl,rfl,rfl⟩:=h1
   split at h2
   .rename_i e2';exact hne' (e1'.trans e2'.symm)
   .exact hne _ _ _ _ _ h2 g hg hg'
  .split at h2
   .simp only[dX] at h2
    obtain⟨rfl,rfl,rfl,rfl⟩:=h2
    exact hne _ _ _ _ _ h1 g hg' hg
   .exact h.tokne t1 t2 _ _ _ _ _ _ _ _ h1 h2 hne' g hg hg'
 fresh:=fun t' p ht=>by
  simp only[Own.add] at ht
  split at ht
  .rename_i e1;subst e1;exact hf
  .exact h.fresh t' p ht
 cells:=fun r off p ht=>by
  simp only[Own.add] at ht
  split at ht
  .rename_i e1;cases e1
  .exact h.cells r off p ht
 m0:=h.m0
theorem Sim.more (h:Sim M0 k ow done w0 w N s tmps) {done':Nat→Prop} (hd:∀ i,done i→done' i):Sim M0 k ow done' w0 w N s tmps :=
 {h.toHp with
  size:=h.size
  fr:=h.fr
  cells:=h.cells
  fresh:=fun t p ht=>by
   have:=h.fresh t p ht
   cases t with
   | nm c ix i=>exact this.imp id (fun⟨a,b⟩=>⟨a,hd _ b⟩)
   | cell r off=>trivial}
theorem Sim.tick (h:Sim M0 k ow done w0 w N s tmps):Sim M0 k ow (fun _=>False) w0 w N {s with clk:=s.clk+1} tmps :=
 {h.toHp with
  size:=h.size
  fr:=h.fr
  cells:=h.cells
  fresh:=fun t p ht=>by
   have:=h.fresh t p ht
   cases t with
   | nm c ix i =>
    refine .inl ?_
    rcases this with h|⟨h,_⟩ <;> simp only[] <;> omega
   | cell r off=>trivial}
theorem arE (k:Know) (ow:Own) (v:Value):bj k ow (abR v) v:=by
 unfold abR
 split <;> simp[bj,Rep,cM,Value.oneCell']
theorem Sim.ev (h:Sim M0 k ow done w0 w N s tmps) (x:Operand):bj k ow (s.ev x) ((⟨tmps,[]⟩ : Act).eval x):=by
 cases x with
 | tmp t=>exact h.fr t
 | const v=>exact arE k ow v
 | func f=>simp[S.ev,Act.eval,bj,Rep,cM]
 | global g=>simp[S.ev,bj,Rep]
def Own.re (ρ:Tk→Option Tk) (ow ow':Own):Prop :=
 (∀ t p t',ow t=some p→ρ t=some t'→ow' t'=some p)∧(∀ t' p,ow' t'=some p→∃ t,ow t=some p∧ρ t=some t')
theorem Sim.tr (h:Sim M0 k ow done w0 w N s tmps) {ρ:Tk→Option Tk} {ow':Own} (hr:ow.re ρ ow') (hf:∀ t p,ow' t=some p→t.older s.clk done) (hc:∀ r off p,ow' (.cell r off)=some p→r<s.objs.length) :
  Sim M0 k ow' done w0 w N (s.tr ρ) tmps :=
 have hn:Ren some ρ k k ow ow':=⟨fun _ _ _ h=>h,fun r b r' hr he=>by cases he;exact hr,hr.1⟩
 {good:=h.good
  size:=h.size
  below:=h.below
  fr:=fun j=>bj.tr hn _ _ (h.fr j)
  mem:=h.mem
  obj:=fun r ob hr=>by
   simp only[S.tr,fA,aP] at hr
   obtain⟨ob',h1,rfl⟩:=hr
   obtain⟨b,h2,h3,h4,h5,h6⟩:=h.obj r ob' h1
   exact⟨b,h2,h3,h4,h5,h6.tr hn⟩
  dom:=fun r b hr=>by simpa [S.tr] using h.dom r b hr
  inj:=h.inj
  tok:=fun t' v e z n ht=>by
   obtain⟨t,g1,_⟩:=hr.2 _ _ ht
   exact h.tok t v e z n g1
  tokne:=fun t t' v e z n v' e' z' n' ht ht' hne=>by
   obtain⟨a,g1,g2⟩:=hr.2 _ _ ht
   obtain⟨b,g3,g4⟩:=hr.2 _ _ ht'
   exact h.tokne a b v e z n v' e' z' n' g1 g3 (fun e=>hne (by subst e;rw[g2] at g4;exact bn g4))
  fresh:=hf
  cells:=fun r off p ht=>by simpa [S.tr] using hc r off p ht
  m0:=h.m0}
end
end Go.Pe

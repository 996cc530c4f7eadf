/-
  An abstract machine for Go code over plain data: a state and the memory that it stands for. Conditions: none.
-/
import Derived.Shelf.LaysM
import Derived.Shelf.Strconv.Itoa3
import Derived.Shelf.Strings.Search3
import Derived.Shelf.Strings.Replace
import Derived.Shelf.Strings.OnBuilder
import Derived.Shelf.Small.Wraps
import Derived.Ground.GgwProg
import Derived.Shelf.Strings.FuncGrows
import Derived.Test.YtemdljoideegeaaGreatDoorProg
import Derived.WalkKit
import Derived.Below
import Derived.Still
import Derived.Maps.AppendAt
set_option linter.defProp false
set_option linter.unusedSectionVars false
set_option maxRecDepth 100000
set_option maxHeartbeats 64000000
theorem Go.ai {a b:Prop} (x:a) (y:b):a∧b:=⟨x,y⟩
namespace Go
def aaI:=@Array.any_eq_true'
def ae6:=@Array.ext'
def aa8:=@Array.getD_eq_getD_getElem?
def fm:=@Array.length_toList
def act:=@Array.mem_of_getElem?
def iy:=@Array.setIfInBounds_comm
def dX:=@Array.toArray_toList
def iK:=@Array.toList_append
def acr:=@Array.toList_map
def dm:=@Bool.and_assoc
def afn:=@Bool.and_comm
def ab:=@Bool.and_eq_true
def cO:=@Bool.and_false
def afm:=@Bool.and_self
def dK:=@Bool.and_true
def aa3:=@Bool.eq_false_iff
def bX:=@Bool.eq_iff_iff
def aZ:=@Bool.false_and
def aW:=@Bool.false_eq_true
def dh:=@Bool.false_or
def cj:=@Bool.not_eq_true'
def dZ:=@Bool.not_false
def dP:=@Bool.not_not
def fk:=@Bool.not_true
def cz:=@Bool.or_eq_true
def eI:=@Bool.or_false
def adX:=@Bool.or_self
def eZ:=@Bool.or_true
def aX:=@Bool.true_and
def abV:=@Bool.true_eq_false
def dv:=@Bool.true_or
def cY:=@Iff.rfl
def iI:=@Int.eq_ofNat_of_zero_le
def aaH:=@Int.natCast_nonneg
def dl:=@Int.toNat_natCast
def ach:=@List.all_cons
def bQ:=@List.all_eq_true
def eY:=@List.all_nil
def afl:=@List.any_cons
def am:=@List.append_assoc
def ama:=@List.append_eq
def cD:=@List.append_nil
def aiU:=@List.append_toArray
def abH:=@List.cons.injEq
def bt:=@List.cons_append
def ac9:=@List.drop_drop
def bK:=@List.drop_eq_getElem_cons
def aw:=@List.drop_length
def fh:=@List.drop_of_length_le
def aaq:=@List.drop_succ_cons
def aeL:=@List.drop_take
def ac8:=@List.drop_zero
def aJ:=@List.eq_nil_of_length_eq_zero
def ab8:=@List.ext_getElem?
def abw:=@List.extract_eq_take_drop
def fq:=@List.flatten_cons
def abi:=@List.flatten_nil
def dW:=@List.getElem_cons_succ
def dM:=@List.getElem_cons_zero
def adW:=@List.getElem_map
def ay:=@List.getElem_mem
def av:=@List.length_append
def aB:=@List.length_cons
def iV:=@List.length_drop
def gM:=@List.length_eq_zero_iff
def gJ:=@List.length_map
def cd:=@List.length_nil
def gg:=@List.length_pos_iff
def jp:=@List.length_singleton
def aaj:=@List.length_take
def aeK:=@List.mapM_cons
def fM:=@List.map_append
def gf:=@List.map_congr_left
def aV:=@List.map_cons
def ady:=@List.map_drop
def ia:=@List.map_map
def bC:=@List.map_nil
def dC:=@List.mem_append
def acG:=@List.mem_append_left
def cX:=@List.mem_cons
def iw:=@List.mem_cons_of_mem
def jg:=@List.mem_filterMap
def gm:=@List.mem_iff_getElem?
def aaU:=@List.mem_map
def fG:=@List.mem_of_getElem?
def fg:=@List.mem_of_mem_drop
def iv:=@List.mem_of_mem_take
def fW:=@List.mem_range
def adt:=@List.mem_singleton
def bw:=@List.nil_append
def acS:=@List.nodup_cons
def aa2:=@List.nodup_nil
def aai:=@List.not_mem_nil
def aaG:=@List.set_cons_succ
def gL:=@List.size_toArray
def bT:=@List.sum_cons
def cT:=@List.sum_nil
def ac7:=@List.take_left
def gZ:=@List.take_length
def ja:=@List.take_of_length_le
def abD:=@List.take_succ_cons
def aaa:=@List.take_succ_eq_append_getElem
def ahD:=@List.take_zero
def abC:=@List.toList_toArray
def ey:=@Nat.add_assoc
def hZ:=@Nat.add_comm
def aew:=@Nat.add_mul
def aaT:=@Nat.add_zero
def fC:=@Nat.eq_zero_or_pos
def jj:=@Nat.le_max_left
def iU:=@Nat.le_max_right
def cS:=@Nat.le_of_ble_eq_true
def aM:=@Nat.le_refl
def du:=@Nat.le_succ
def aaS:=@Nat.le_trans
def au:=@Nat.lt_irrefl
def ff:=@Nat.lt_of_lt_of_le
def ap:=@Nat.lt_or_ge
def adV:=@Nat.lt_succ_self
def adI:=@Nat.lt_trichotomy
def jo:=@Nat.mul_one
def agG:=@Nat.mul_pos
def gI:=@Nat.not_lt_zero
def af1:=@Nat.sub_self
def adU:=@Nat.sub_zero
def adT:=@Nat.succ_mul
def abh:=@Nat.succ_ne_zero
def bd:=@Nat.zero_add
def e9:=@Nat.zero_le
def acR:=@Nat.zero_lt_one
def af0:=@Nat.zero_mul
def cR:=@Option.bind_eq_some_iff
def dD:=@Option.bind_some
def acq:=@Option.getD_none
def agF:=@Option.getD_some
def abL:=@Option.isSome_iff_exists
def aP:=@Option.map_eq_some_iff
def bH:=@Option.map_some
def bn:=@Option.some.inj
def ae:=@Option.some.injEq
def bf:=@Prod.mk.injEq
def abG:=@UInt8.toNat_inj
def aaf:=@and_assoc
def ab0:=@and_comm
def bJ:=@and_false
def ji:=@and_left_comm
def da:=@and_self
def gh:=@and_true
def fH:=@beq_iff_eq
def ae5:=@bne_iff_ne
def fE:=@decide_eq_decide
def bO:=@decide_eq_false
def iH:=@decide_eq_false_iff_not
def ct:=@decide_eq_true
def ar:=@decide_eq_true_eq
def bE:=@decide_false
def bG:=@decide_true
def aju:=@dif_neg
def ahm:=@dif_pos
def aO:=@eq_false
def ag3:=@eq_iff_iff
def aa:=@eq_true
def bD:=@false_and
def fp:=@false_or
def aQ:=@if_false
def aj:=@if_neg
def aE:=@if_pos
def aA:=@if_true
def abu:=@iff_false
def co:=@ne_eq
def jq:=@not_false_eq_true
def acp:=@not_or
def aa1:=@not_true_eq_false
def gK:=@of_decide_eq_true
def eV:=@or_false
def bm:=@or_self
def br:=@or_true
def cW:=@true_and
def bo:=@true_or
def cH:=ai (ai @fM.{0,0} (ai @aV.{0,0} @bC.{0,0})) (ai (ai @bt.{0} @bw.{0}) (ai @am.{0} @cD.{0}))
def aR:=ai @av.{0} (ai @aB.{0} @cd.{0})
def ce:=ai @bt.{0} @bw.{0}
def aJM:=ai @am.{0} @bt.{0}
def dI:=ai @aB.{0} @cd.{0}
def fe:=ai @ama.{0} @aiU.{0}
def dR:=ai @ae.{0} @bf.{0,0}
end Go
namespace Go.Proofs
open Go.Shelf
def Tryz.laysM171_ren:Go.Shelf.Ren:=⟨fun|171=>227|243=>255|246=>264|283=>273|284=>274|285=>275|286=>276|129=>283|317=>282|318=>284|319=>285|320=>286|337=>289|338=>290|n=>n,fun|3=>3|9=>9|2=>2|4=>4|171=>261|0=>0|53=>262|37=>91|5=>5|173=>265|212=>274|51=>275|20=>20|213=>276|46=>268|232=>281|233=>282|n=>n,fun|17=>3|18=>4|19=>5|n=>n⟩
theorem Tryz.laysM171:Go.Proofs.LaysM.n171 Tryz.prog Tryz.laysM171_ren:={
 mixed:=by kernel_rfl
 f129:=Tryz.func283.trans (congrArg some (by kernel_rfl))
 f171:=Tryz.func227.trans (congrArg some (by kernel_rfl))
 f243:=Tryz.func255.trans (congrArg some (by kernel_rfl))
 f246:=Tryz.func264.trans (congrArg some (by kernel_rfl))
 f283:=Tryz.func273.trans (congrArg some (by kernel_rfl))
 f284:=Tryz.func274.trans (congrArg some (by kernel_rfl))
 f285:=Tryz.func275.trans (congrArg some (by kernel_rfl))
 f286:=Tryz.func276.trans (congrArg some (by kernel_rfl))
 f317:=Tryz.func282.trans (congrArg some (by kernel_rfl))
 f318:=Tryz.func284.trans (congrArg some (by kernel_rfl))
 f319:=Tryz.func285.trans (congrArg some (by kernel_rfl))
 f320:=Tryz.func286.trans (congrArg some (by kernel_rfl))
 f337:=Tryz.func289.trans (congrArg some (by kernel_rfl))
 f338:=Tryz.func290.trans (congrArg some (by kernel_rfl))
 t0:=Tryz.underlying0
 a0:=Tryz.isAgg0
 z0:=Tryz.sizeOf0
 v0:=Tryz.zeroValue0
 t2:=Tryz.underlying2
 a2:=Tryz.isAgg2
 z2:=Tryz.sizeOf2
 v2:=Tryz.zeroValue2
 t3:=Tryz.underlying3
 a3:=Tryz.isAgg3
 z3:=Tryz.sizeOf3
 v3:=Tryz.zeroValue3
 t4:=Tryz.underlying4
 a4:=Tryz.isAgg4
 z4:=Tryz.sizeOf4
 v4:=Tryz.zeroValue4
 t5:=Tryz.underlying5
 a5:=Tryz.isAgg5
 z5:=Tryz.sizeOf5
 v5:=Tryz.zeroValue5
 t9:=Tryz.underlying9
 a9:=Tryz.isAgg9
 z9:=Tryz.sizeOf9
 v9:=Tryz.zeroValue9
 t20:=Tryz.underlying20
 a20:=Tryz.isAgg20
 z20:=Tryz.sizeOf20
 v20:=Tryz.zeroValue20
 t37:=Tryz.underlying91
 a37:=Tryz.isAgg91
 z37:=Tryz.sizeOf91
 v37:=Tryz.zeroValue91
 t46:=Tryz.underlying268
 a46:=Tryz.isAgg268
 z46:=Tryz.sizeOf268
 v46:=Tryz.zeroValue268
 t51:=Tryz.underlying275
 a51:=Tryz.isAgg275
 z51:=Tryz.sizeOf275
 v51:=Tryz.zeroValue275
 t53:=Tryz.underlying262
 a53:=Tryz.isAgg262
 z53:=Tryz.sizeOf262
 v53:=Tryz.zeroValue262
 t171:=Tryz.underlying261
 a171:=Tryz.isAgg261
 z171:=Tryz.sizeOf261
 v171:=Tryz.zeroValue261
 t173:=Tryz.underlying265
 a173:=Tryz.isAgg265
 z173:=Tryz.sizeOf265
 v173:=Tryz.zeroValue265
 t212:=Tryz.underlying274
 a212:=Tryz.isAgg274
 z212:=Tryz.sizeOf274
 v212:=Tryz.zeroValue274
 t213:=Tryz.underlying276
 a213:=Tryz.isAgg276
 z213:=Tryz.sizeOf276
 t232:=Tryz.underlying281
 a232:=Tryz.isAgg281
 z232:=Tryz.sizeOf281
 v232:=Tryz.zeroValue281
 t233:=Tryz.underlying282
 a233:=Tryz.isAgg282
 z233:=Tryz.sizeOf282
 v233:=Tryz.zeroValue282
 g17:=by kernel_rfl
 g18:=by kernel_rfl
 g19:=by kernel_rfl
 i0:=by kernel_rfl
 i2:=by kernel_rfl
 i3:=by kernel_rfl
 i4:=by kernel_rfl
 i5:=by kernel_rfl
 i9:=by kernel_rfl
 i20:=by kernel_rfl
 i37:=by kernel_rfl
 i46:=by kernel_rfl
 i51:=by kernel_rfl
 i53:=by kernel_rfl
 i171:=by kernel_rfl
 i173:=by kernel_rfl
 i212:=by kernel_rfl
 i232:=by kernel_rfl
 i233:=by kernel_rfl
 m17:=by kernel_rfl
 m18:=by kernel_rfl
 m19:=by kernel_rfl}
open Go.RowKit Go.Sort Go.Lib in
theorem Tryz.strconv_Itoa (n:Int) (h0:-9223372036854775808≤n) (h1:n≤9223372036854775807) (w:World) (htab:Lib.TabIs Tryz.prog w "internal/strconv.uint64pow10" .u64 Lib.pow10Tab) :
  Calls Tryz.prog 227 #[.int .i64 n] w fun e w'=>e=.returned (.string ⟨(Lib.itoa n).toArray⟩)∧∃ k os,w'=grow (w.drewN k) os:=Any.strconv_Itoa Tryz.laysM171 n h0 h1 w htab
def Tryz.lays144_ren:Go.Shelf.Ren:=⟨fun|144=>246|143=>258|219=>268|217=>278|225=>279|224=>280|267=>281|266=>287|314=>288|n=>n,fun|9=>9|4=>4|3=>3|5=>5|46=>268|146=>278|51=>275|n=>n,fun|1=>0|n=>n⟩
theorem Tryz.lays144:Go.Proofs.Lays.n144 Tryz.prog Tryz.lays144_ren:={
 mixed:=by kernel_rfl
 f143:=Tryz.func258.trans (congrArg some (by kernel_rfl))
 f144:=Tryz.func246.trans (congrArg some (by kernel_rfl))
 f217:=Tryz.func278.trans (congrArg some (by kernel_rfl))
 f219:=Tryz.func268.trans (congrArg some (by kernel_rfl))
 f224:=Tryz.func280.trans (congrArg some (by kernel_rfl))
 f225:=Tryz.func279.trans (congrArg some (by kernel_rfl))
 f266:=Tryz.func287.trans (congrArg some (by kernel_rfl))
 f267:=Tryz.func281.trans (congrArg some (by kernel_rfl))
 f314:=Tryz.func288.trans (congrArg some (by kernel_rfl))
 t3:=Tryz.underlying3
 a3:=Tryz.isAgg3
 z3:=Tryz.sizeOf3
 v3:=Tryz.zeroValue3
 t4:=Tryz.underlying4
 a4:=Tryz.isAgg4
 z4:=Tryz.sizeOf4
 v4:=Tryz.zeroValue4
 t5:=Tryz.underlying5
 a5:=Tryz.isAgg5
 z5:=Tryz.sizeOf5
 v5:=Tryz.zeroValue5
 t9:=Tryz.underlying9
 a9:=Tryz.isAgg9
 z9:=Tryz.sizeOf9
 v9:=Tryz.zeroValue9
 t46:=Tryz.underlying268
 a46:=Tryz.isAgg268
 z46:=Tryz.sizeOf268
 v46:=Tryz.zeroValue268
 t51:=Tryz.underlying275
 a51:=Tryz.isAgg275
 z51:=Tryz.sizeOf275
 v51:=Tryz.zeroValue275
 t146:=Tryz.underlying278
 a146:=Tryz.isAgg278
 z146:=Tryz.sizeOf278
 v146:=Tryz.zeroValue278
 g1:=by kernel_rfl}
open Go.RowKit Go.Lib in
theorem Tryz.strings_Contains (s sub:ByteArray) (m:Int) (w:World) (hs:s.size<4294967281) (hm:w.cell? ⟨0,0,none⟩=some (.int .i64 m)) :
  Calls Tryz.prog 246 #[.string s,.string sub] w fun e w'=>e=.returned (.bool (Lib.contains s.data.toList sub.data.toList))∧w'=w:=Any.strings_Contains Tryz.lays144 s sub m w hs hm
def Tryz.laysGw15_ren:Go.Shelf.Ren:=⟨fun|15=>223|20=>254|n=>n,fun|9=>9|23=>231|3=>3|4=>4|0=>0|21=>21|n=>n,fun|n=>n⟩
theorem Tryz.laysGw15:Go.Proofs.LaysGw.n15 Tryz.prog Tryz.laysGw15_ren:={
 mixed:=by kernel_rfl
 f15:=Tryz.func223.trans (congrArg some (by kernel_rfl))
 f20:=Tryz.func254.trans (congrArg some (by kernel_rfl))
 t0:=Tryz.underlying0
 a0:=Tryz.isAgg0
 z0:=Tryz.sizeOf0
 v0:=Tryz.zeroValue0
 i0:=by kernel_rfl
 t3:=Tryz.underlying3
 a3:=Tryz.isAgg3
 z3:=Tryz.sizeOf3
 v3:=Tryz.zeroValue3
 i3:=by kernel_rfl
 t4:=Tryz.underlying4
 a4:=Tryz.isAgg4
 z4:=Tryz.sizeOf4
 v4:=Tryz.zeroValue4
 i4:=by kernel_rfl
 t9:=Tryz.underlying9
 a9:=Tryz.isAgg9
 z9:=Tryz.sizeOf9
 v9:=Tryz.zeroValue9
 i9:=by kernel_rfl
 t21:=Tryz.underlying21
 a21:=Tryz.isAgg21
 z21:=Tryz.sizeOf21
 v21:=Tryz.zeroValue21
 i21:=by kernel_rfl
 t23:=Tryz.underlying231
 a23:=Tryz.isAgg231
 z23:=Tryz.sizeOf231
 v23:=Tryz.zeroValue231
 i23:=by kernel_rfl}
def Tryz.lays155_ren:Go.Shelf.Ren:=⟨fun|155=>173|154=>228|138=>256|165=>257|143=>258|166=>47|197=>259|169=>49|195=>265|218=>266|240=>124|241=>267|219=>268|260=>269|276=>209|277=>277|217=>278|225=>279|224=>280|267=>281|266=>287|314=>288|n=>n,fun|9=>9|3=>3|4=>4|72=>93|0=>0|76=>98|105=>253|21=>21|5=>5|70=>90|20=>20|37=>91|75=>96|127=>159|164=>222|46=>268|119=>269|139=>272|138=>271|146=>278|51=>275|80=>101|n=>n,fun|1=>0|3=>1|4=>2|n=>n⟩
theorem Tryz.lays155:Go.Proofs.Lays.n155 Tryz.prog Tryz.lays155_ren:={
 mixed:=by kernel_rfl
 f138:=Tryz.func256.trans (congrArg some (by kernel_rfl))
 f143:=Tryz.func258.trans (congrArg some (by kernel_rfl))
 f154:=Tryz.func228.trans (congrArg some (by kernel_rfl))
 f155:=Tryz.func173.trans (congrArg some (by kernel_rfl))
 f165:=Tryz.func257.trans (congrArg some (by kernel_rfl))
 f166:=Tryz.func47.trans (congrArg some (by kernel_rfl))
 f169:=Tryz.func49.trans (congrArg some (by kernel_rfl))
 f195:=Tryz.func265.trans (congrArg some (by kernel_rfl))
 f197:=Tryz.func259.trans (congrArg some (by kernel_rfl))
 f217:=Tryz.func278.trans (congrArg some (by kernel_rfl))
 f218:=Tryz.func266.trans (congrArg some (by kernel_rfl))
 f219:=Tryz.func268.trans (congrArg some (by kernel_rfl))
 f224:=Tryz.func280.trans (congrArg some (by kernel_rfl))
 f225:=Tryz.func279.trans (congrArg some (by kernel_rfl))
 f240:=Tryz.func124.trans (congrArg some (by kernel_rfl))
 f241:=Tryz.func267.trans (congrArg some (by kernel_rfl))
 f260:=Tryz.func269.trans (congrArg some (by kernel_rfl))
 f266:=Tryz.func287.trans (congrArg some (by kernel_rfl))
 f267:=Tryz.func281.trans (congrArg some (by kernel_rfl))
 f276:=Tryz.func209.trans (congrArg some (by kernel_rfl))
 f277:=Tryz.func277.trans (congrArg some (by kernel_rfl))
 f314:=Tryz.func288.trans (congrArg some (by kernel_rfl))
 t0:=Tryz.underlying0
 a0:=Tryz.isAgg0
 z0:=Tryz.sizeOf0
 v0:=Tryz.zeroValue0
 t3:=Tryz.underlying3
 a3:=Tryz.isAgg3
 z3:=Tryz.sizeOf3
 v3:=Tryz.zeroValue3
 t4:=Tryz.underlying4
 a4:=Tryz.isAgg4
 z4:=Tryz.sizeOf4
 v4:=Tryz.zeroValue4
 t5:=Tryz.underlying5
 a5:=Tryz.isAgg5
 z5:=Tryz.sizeOf5
 v5:=Tryz.zeroValue5
 t9:=Tryz.underlying9
 a9:=Tryz.isAgg9
 z9:=Tryz.sizeOf9
 v9:=Tryz.zeroValue9
 t20:=Tryz.underlying20
 a20:=Tryz.isAgg20
 z20:=Tryz.sizeOf20
 v20:=Tryz.zeroValue20
 t21:=Tryz.underlying21
 a21:=Tryz.isAgg21
 z21:=Tryz.sizeOf21
 v21:=Tryz.zeroValue21
 t37:=Tryz.underlying91
 a37:=Tryz.isAgg91
 z37:=Tryz.sizeOf91
 v37:=Tryz.zeroValue91
 t46:=Tryz.underlying268
 a46:=Tryz.isAgg268
 z46:=Tryz.sizeOf268
 v46:=Tryz.zeroValue268
 t51:=Tryz.underlying275
 a51:=Tryz.isAgg275
 z51:=Tryz.sizeOf275
 v51:=Tryz.zeroValue275
 t70:=Tryz.underlying90
 a70:=Tryz.isAgg90
 z70:=Tryz.sizeOf90
 v70:=Tryz.zeroValue90
 t72:=Tryz.underlying93
 a72:=Tryz.isAgg93
 z72:=Tryz.sizeOf93
 v72:=Tryz.zeroValue93
 t75:=Tryz.underlying96
 a75:=Tryz.isAgg96
 z75:=Tryz.sizeOf96
 v75:=Tryz.zeroValue96
 t76:=Tryz.underlying98
 a76:=Tryz.isAgg98
 z76:=Tryz.sizeOf98
 v76:=Tryz.zeroValue98
 t105:=Tryz.underlying253
 a105:=Tryz.isAgg253
 z105:=Tryz.sizeOf253
 v105:=Tryz.zeroValue253
 t119:=Tryz.underlying269
 a119:=Tryz.isAgg269
 z119:=Tryz.sizeOf269
 t127:=Tryz.underlying159
 a127:=Tryz.isAgg159
 z127:=Tryz.sizeOf159
 v127:=Tryz.zeroValue159
 t138:=Tryz.underlying271
 a138:=Tryz.isAgg271
 z138:=Tryz.sizeOf271
 v138:=Tryz.zeroValue271
 t139:=Tryz.underlying272
 a139:=Tryz.isAgg272
 z139:=Tryz.sizeOf272
 v139:=Tryz.zeroValue272
 t146:=Tryz.underlying278
 a146:=Tryz.isAgg278
 z146:=Tryz.sizeOf278
 v146:=Tryz.zeroValue278
 t164:=Tryz.underlying222
 a164:=Tryz.isAgg222
 z164:=Tryz.sizeOf222
 v164:=Tryz.zeroValue222
 g1:=by kernel_rfl
 g3:=by kernel_rfl
 g4:=by kernel_rfl}
theorem Tryz.Builder_Extra_155:Builder.Extra Tryz.prog Tryz.lays155_ren:={
 sizeBuilder:=by kernel_rfl
 liesBuilder:=by kernel_rfl
 t5:=Tryz.underlying5
 a5:=Tryz.isAgg5
 z5:=Tryz.sizeOf5
 v5:=Tryz.zeroValue5
 infoByte:=by kernel_rfl
 cellsByte:=by kernel_rfl
 sizeByte:=by kernel_rfl
 neB5:=by decide}
open Go.RowKit Go.Lib in
theorem Tryz.strings_ReplaceAll (s old new:ByteArray) (m:Int) (w:World) (hs:s.size<4294967281) (hm:w.cell? ⟨0,0,none⟩=some (.int .i64 m)) (h1:1≤old.size) (hlen:s.size+Lib.countB s old*new.size≤140737488355328) :
  Calls Tryz.prog 173 #[.string s,.string old,.string new] w fun e w' =>
   e=.returned (.string ⟨(Lib.replaceAll s.data.toList old.data.toList new.data.toList).toArray⟩)∧Below w.heap.size w w':=Any.strings_ReplaceAll Tryz.lays155 Tryz.Builder_Extra_155 s old new m w hs hm h1 hlen
open Go.RowKit Go.Lib in
theorem Tryz.strings_IndexFunc_grows (g:Nat) (lb:Array Value) (eg:∀ args w,(callFunc g args).run Tryz.prog w=.ok (.enter g args) w) (p:Nat→Bool) (s:ByteArray) (w:World) (hp:PredGrows Tryz.prog g lb p w) :
  Calls Tryz.prog 223 #[.string s,.func (.func g) #[] lb] w fun e w'=>e=.returned (.int .i64 (Lib.idxFunc p true s))∧Below w.heap.size w w':=Any.strings_IndexFunc_grows Tryz.laysGw15 g lb eg p s w hp
end Go.Proofs
namespace Go.Pe
inductive C where
 | any
 | undef
 | lit (v:Value)
 | sl (cs:List C) (n:Nat)
 | ref (cs:List C)
 | fn (f:Nat) (caps:List C)
 | agg (cs:List C)
 | tup (cs:List C)
 | ifc (t:Nat) (c:C)
abbrev ci (n:Int):C:=.lit (.int .i64 n)
abbrev cb (b:Bool):C:=.lit (.bool b)
abbrev aH (s:ByteArray):C:=.lit (.string s)
def C.cells:C→List C
 | .agg cs=>cs
 | c=>[c]
inductive Tk where
 | nm (clk ix i:Nat)
 | cell (r off:Nat)
 deriving DecidableEq
inductive X where
 | of (a:C)
 | nil
 | own (t:Tk) (e z:Nat) (cs:List C) (n:Nat)
 | ptr (r off:Nat)
 | mp (r:Nat)
 | clo (f:Nat) (caps:List X)
 | agg (xs:List X)
 | tup (xs:List X)
 | nw (o:Option Tk) (ty z:Nat)
abbrev aU (n:Int):X:=.of (ci n)
abbrev aG (b:Bool):X:=.of (cb b)
abbrev dw (s:ByteArray):X:=.of (aH s)
inductive Ob where
 | var (ty:Nat) (xs:List X)
 | map (es:List (Value×C))
mutual
def X.rd:X→Option C
 | .of c=>some c
 | .nil=>some (.sl [] 0)
 | .own _ _ _ cs n=>some (.sl cs n)
 | .agg xs=>(X.rds xs).map .agg
 | _=>none
def X.rds:List X→Option (List C)
 | []=>some []
 | x::r=>match x.rd,X.rds r with
  | some c,some cs=>some (c::cs)
  | _,_=>none
end
def afg (t:Tk):Option Tk→Option Tk
 | some t'=>if t'=t then none else some t'
 | none=>none
mutual
def X.drop (t:Tk):X→X
 | .own t' e z cs n=>if t'=t then .of (.sl cs n) else .own t' e z cs n
 | .clo f caps=>.clo f (X.drops t caps)
 | .agg xs=>.agg (X.drops t xs)
 | .tup xs=>.tup (X.drops t xs)
 | .nw o ty z=>.nw (afg t o) ty z
 | x=>x
def X.drops (t:Tk):List X→List X
 | []=>[]
 | x::r=>x.drop t::X.drops t r
end
def Ob.drop (t:Tk):Ob→Ob
 | .var ty xs=>.var ty (X.drops t xs)
 | o=>o
mutual
def X.tr (σ:Nat→Option Nat) (ρ:Tk→Option Tk):X→X
 | .of c=>.of c
 | .nil=>.nil
 | .own t e z cs n=>match ρ t with
  | some t'=>.own t' e z cs n
  | none=>.of (.sl cs n)
 | .ptr r off=>match σ r with
  | some r'=>.ptr r' off
  | none=>.of .any
 | .mp r=>match σ r with
  | some r'=>.mp r'
  | none=>.of .any
 | .clo f caps=>.clo f (X.trs σ ρ caps)
 | .agg xs=>.agg (X.trs σ ρ xs)
 | .tup xs=>.tup (X.trs σ ρ xs)
 | .nw o ty z=>.nw (o.bind ρ) ty z
def X.trs (σ:Nat→Option Nat) (ρ:Tk→Option Tk):List X→List X
 | []=>[]
 | x::r=>x.tr σ ρ::X.trs σ ρ r
end
def Ob.tr (σ:Nat→Option Nat) (ρ:Tk→Option Tk):Ob→Ob
 | .var ty xs=>.var ty (X.trs σ ρ xs)
 | .map es=>.map es
mutual
def X.refs:X→List Nat
 | .ptr r _=>[r]
 | .mp r=>[r]
 | .clo _ caps=>X.refsL caps
 | .agg xs=>X.refsL xs
 | .tup xs=>X.refsL xs
 | _=>[]
def X.refsL:List X→List Nat
 | []=>[]
 | x::r=>x.refs++X.refsL r
end
mutual
def X.toks:X→List Tk
 | .own t _ _ _ _=>[t]
 | .clo _ caps=>X.toksL caps
 | .agg xs=>X.toksL xs
 | .tup xs=>X.toksL xs
 | .nw o _ _=>o.toList
 | _=>[]
def X.toksL:List X→List Tk
 | []=>[]
 | x::r=>x.toks++X.toksL r
end
def Ob.refs:Ob→List Nat
 | .var _ xs=>X.refsL xs
 | .map _=>[]
def pos {α:Type} [DecidableEq α]:List α→α→Option Nat
 | [],_=>none
 | a::l,b=>if a=b then some 0 else (pos l b).map (·+1)
def nub {α:Type} [DecidableEq α]:List α→List α→List α
 | [],seen=>seen
 | a::l,seen=>if a∈seen then nub l seen else nub l (seen++[a])
def aah (objs:List Ob):Nat→List Nat→List Nat→List Nat
 | 0,_,seen=>seen
 | _+1,[],seen=>seen
 | n+1,r::todo,seen=>if r∈seen then aah objs n todo seen else aah objs n (((objs[r]?).map Ob.refs).getD []++todo) (seen++[r])
def aa6 (refs:List Nat) (ts:List Tk) (t:Tk):Option Tk:=match pos ts t with
 | some i=>some (.nm 0 0 i)
 | none=>match t with
  | .cell r off=>(pos refs r).map fun r'=>.cell r' off
  | .nm ..=>none
def aar (refs:List Nat) (ts:List Tk) (t:Tk):Option Tk:=if t∈ts then none else match t with
 | .cell r _=>if r∈refs then none else some t
 | .nm ..=>some t
def fJ (refs:List Nat) (L i:Nat):Nat:=match refs[i]? with
 | some r=>r
 | none=>L+(i-refs.length)
def fx (refs:List Nat) (L clk ix:Nat):Tk→Option Tk
 | .nm 0 0 i=>some (.nm clk ix i)
 | .nm ..=>none
 | .cell r off=>some (.cell (fJ refs L r) off)
def aeO (ts:List Tk) (objs:List Ob):List Ob:=match ts with
 | []=>objs
 | ts=>objs.map (Ob.tr some fun t=>if t∈ts then none else some t)
def je (σ:Nat→Option Nat) (ρ:Tk→Option Tk) (objs:List Ob):List Nat→Option (List Ob)
 | []=>some []
 | r::l=>match objs[r]?,je σ ρ objs l with
  | some ob,some q=>some (ob.tr σ ρ::q)
  | _,_=>none
def jv (σ:Nat→Option Nat) (ρ:Tk→Option Tk):List Ob→List Nat→List Ob→List Ob
 | objs,r::l,ob::q=>jv σ ρ (objs.set r (ob.tr σ ρ)) l q
 | objs,_,_=>objs
def ani (t:Option Tk) (x:X):X:=match t with|none=>x|some t=>x.drop t
structure S where
 fr:Nat→X
 objs:List Ob
 clk:Nat
def upd (f:Nat→X) (d:Nat) (x:X):Nat→X:=fun j=>if j=d then x else f j
def S.put (s:S) (d:Option Nat) (x:X):S:=match d with
 | none=>s
 | some d=>{s with fr:=upd s.fr d x}
def S.drop (s:S) (t:Option Tk):S:=match t with
 | none=>s
 | some t=>{s with fr:=fun j=>(s.fr j).drop t,objs:=s.objs.map (·.drop t)}
def abT:Value→X
 | .slice none 0 0=>.nil
 | .int k n=>.of (.lit (.int k n))
 | .bool b=>.of (.lit (.bool b))
 | .string s=>.of (.lit (.string s))
 | .pointer none=>.of (.lit (.pointer none))
 | .map none=>.of (.lit (.map none))
 | .nilFunc=>.of (.lit .nilFunc)
 | .nilIface=>.of (.lit .nilIface)
 | _=>.of .any
def S.ev (s:S):Operand→X
 | .tmp t=>s.fr t
 | .const v=>abT v
 | .func f=>.of (.fn f [])
 | .global _=>.of .any
structure TD where
 und:TypeDesc
 size:Nat
 bytes:Nat
 agg:Bool
 zero:List Value
 fields:List (Nat×Nat)
abbrev TT:=Nat→Option TD
def ame:TypeDesc→Bool
 | .struct _=>true
 | .array _ _=>true
 | _=>false
def amd:Value→Bool
 | .agg _=>true
 | _=>false
def fieldsOf (P:Program):TypeDesc→Option (List (Nat×Nat))
 | .struct fs=>fs.toList.mapM fun f=>(P.info? f.type).map fun i=>(f.offset,i.size)
 | _=>some []
def TT.of (P:Program):TT:=fun t=>match P.underlying t,P.info? t with
 | some u,some i=>match i.zero,fieldsOf P u with
  | some z,some fl=>if z.cells.toList.all (·.oneCell')&&z.cells.size == i.size&&amd z == ame u then some ⟨u,i.size,i.bytes,ame u,z.cells.toList,fl⟩ else none
  | _,_=>none
 | _,_=>none
def LIM:Nat:=4294967296
def gH:Nat:=140737488355328
def adl (op:BinOp) (k:IntKind) (a b:Int):Option Value:=match op with
 | .add=>some (.int k (k.wrap (a+b)))
 | .sub=>some (.int k (k.wrap (a-b)))
 | .mul=>some (.int k (k.wrap (a*b)))
 | .quo=>if b=0 then none else some (.int k (k.wrap (a.tdiv b)))
 | .rem=>if b=0 then none else some (.int k (a.tmod b))
 | .eql=>some (.bool (decide (a=b)))
 | .neq=>some (.bool (!decide (a=b)))
 | .lss=>some (.bool (decide (a<b)))
 | .leq=>some (.bool (decide (a≤b)))
 | .gtr=>some (.bool (decide (b<a)))
 | .geq=>some (.bool (decide (b≤a)))
 | .and=>some (.int k (k.wrap (BitVec.ofInt k.bits a &&& BitVec.ofInt k.bits b).toNat))
 | .andNot=>some (.int k (k.wrap (BitVec.ofInt k.bits a &&& ~~~BitVec.ofInt k.bits b).toNat))
 | _=>none
def amy (op:BinOp) (a b:ByteArray):Option Value:=match op with
 | .add=>if a.size+b.size≤gH then some (.string (a++b)) else none
 | .eql=>some (.bool (decide (a=b)))
 | .neq=>some (.bool (!decide (a=b)))
 | _=>none
def anu (op:BinOp) (a b:Bool):Option Value:=match op with
 | .eql=>some (.bool (a == b))
 | .neq=>some (.bool (!(a == b)))
 | _=>none
def ajY:Option TypeDesc→Bool
 | some .bool=>true
 | _=>false
def aaK (u:Option TypeDesc) (op:BinOp):Value→Value→Option Value
 | .int k a,.int k' b=>if k=k' then adl op k a b else none
 | .string a,.string b=>amy op a b
 | .bool a,.bool b=>if ajY u then anu op a b else none
 | _,_=>none
def aoJ (op:UnOp):Value→Option Value
 | .int k n=>match op with
  | .neg=>some (.int k (k.wrap (0-n)))
  | _=>none
 | .bool b=>match op with
  | .not=>some (.bool (!b))
  | _=>none
 | _=>none
def aic:Value→Value→Option Bool
 | .int k a,.int k' b=>if k=k' then some (decide (a=b)) else none
 | .string a,.string b=>some (decide (a=b))
 | .bool a,.bool b=>some (a == b)
 | _,_=>none
def acg:X→Option Int
 | .of (.lit (.int .i64 n))=>some n
 | _=>none
def ac1:X→Option Bool
 | .of (.lit (.bool b))=>some b
 | _=>none
def acL:X→Option (List C×Nat)
 | .nil=>some ([],0)
 | .own _ _ _ cs n=>some (cs,n)
 | .of (.sl cs n)=>some (cs,n)
 | _=>none
def d5:X→Option (List X)
 | .agg xs=>some xs
 | .of (.agg cs)=>some (cs.map .of)
 | .of .any=>none
 | .of .undef=>none
 | .of (.tup _)=>none
 | .tup _=>none
 | .nw ..=>none
 | x=>some [x]
def gA (x:X):Option (List C):=(d5 x).bind X.rds
def iY (place:Nat→Option (Nat×Nat)) (cells:List X):List (Nat×List X)→Option (List X)
 | []=>some cells
 | (i,xs)::rest=>match place i with
  | none=>none
  | some (off,size) =>
   if xs.length=size∧off+size≤cells.length then iY place (cells.take off++xs++cells.drop (off+size)) rest
   else none
def ik (d:TD):List X:=d.zero.map abT
def cB (T:TT) (t:Nat) (cs:List C):Option C:=match T t with
 | none=>none
 | some d=>if d.size≤cs.length then (if d.agg then some (.agg (cs.take d.size)) else match cs with
   | c::_=>some c
   | []=>none) else none
def gR (T:TT) (t:Nat) (xs:List X):Option X:=match T t with
 | none=>none
 | some d=>if d.size≤xs.length then (if d.agg then some (.agg (xs.take d.size)) else match xs with
   | x::_=>some x
   | []=>none) else none
def elemOf (T:TT) (t:Nat):Option (Nat×TD):=match T t with
 | some {und:=.slice e,..}=>(T e).map fun d=>(e,d)
 | _=>none
def jn (f:Operand→X) (ps:List (Nat×Operand)):Option (List (Nat×List X)):=match ps with
 | []=>some []
 | (i,x)::r=>match d5 (f x),jn f r with
  | some l,some q=>some ((i,l)::q)
  | _,_=>none
def aay (f:Operand→X):List Operand→Option (List C)
 | []=>some []
 | x::r=>match (f x).rd,aay f r with
  | some c,some cs=>some (c::cs)
  | _,_=>none
abbrev Out:=Option (X×Option Tk)
def out (x:X):Out:=some (x,none)
def dB (x:Option X):Out:=x.map fun x=>(x,none)
def ada:Option TypeDesc→Bool
 | some .string=>true
 | _=>false
def aed (s:ByteArray):List C:=s.data.toList.map fun b=>.lit (.int .u8 b.toNat)
def aia:Option TD→Bool
 | some {und:=.int .u8,size:=1,..}=>true
 | _=>false
def agQ (T:TT) (st xt e:Nat) (x:X):Option (List C×Nat) :=
 if st=xt then acL x else match x with
  | .of (.lit (.string s))=>if ada ((T xt).map (·.und))=true∧aia (T e)=true then some (aed s,s.size) else none
  | _=>none
def js (T:TT) (t:Tk) (st xt:Nat) (s x:X):Out:=match elemOf T st with
 | some (e,d)=>match agQ T st xt e x with
  | some (ys,m) =>
   if ys.length=m*d.size∧0<d.size then match s with
    | .nil=>if m≤LIM∧d.bytes≤32768 then some (.own t e d.size ys m,none) else none
    | .own t' e' z cs n=>if e'=e∧z=d.size∧n+m≤LIM∧d.bytes≤32768 then some (.own t e d.size (cs++ys) (n+m),some t') else none
    | _=>none
   else none
  | none=>none
 | none=>none
def acY (d:Int):Option X→Option Int
 | none=>some d
 | some l=>acg l
def aao (T:TT) (t:Nat) (x:X) (lo hi:Option X):Out :=
 match x with
 | .of (.lit (.string s)) =>
  if ada ((T t).map (·.und)) then match acY 0 lo,acY (s.size:Int) hi with
  | some l,some h=>if 0≤l∧l≤h∧h≤(s.size:Int) then out (.of (.lit (.string (s.extract l.toNat h.toNat)))) else none
  | _,_=>none
  else none
 | x=>match elemOf T t,acL x with
  | some (_,d),some (cs,n) =>
   match acY 0 lo,acY (n:Int) hi with
   | some l,some h=>if 0≤l∧l≤h∧h≤(n:Int)∧cs.length=n*d.size then out (.of (.sl ((cs.drop (l.toNat*d.size)).take ((h.toNat-l.toNat)*d.size)) (h.toNat-l.toNat))) else none
   | _,_=>none
  | _,_=>none
def acQ (T:TT) (objs:List Ob) (t:Nat):X→Out
 | .ptr r off=>match objs[r]? with
  | some (.var _ xs)=>dB (gR T t (xs.drop off))
  | _=>none
 | .of (.ref cs)=>dB ((cB T t cs).map .of)
 | _=>none
def aiN (T:TT) (t f:Nat):Option (Nat×Nat):=(T t).bind fun d=>d.fields[f]?
def abm (T:TT) (t f:Nat) (x:X):Out:=match aiN T t f with
 | some (o,z)=>if 0<z then match x with
  | .ptr r off=>out (.ptr r (off+o))
  | .of (.ref cs)=>out (.of (.ref (cs.drop o)))
  | _=>none else none
 | none=>none
def anh:TypeDesc→Nat→Option Nat
 | .struct fs,i=>(fs[i]?).map (·.type)
 | _,_=>none
def afB (T:TT) (t f:Nat) (x:X):Out:=match T t with
 | some d=>match d.fields[f]?,anh d.und f with
  | some (o,_),some u=>match x with
   | .agg xs=>dB (gR T u (xs.drop o))
   | .of (.agg cs)=>dB ((cB T u (cs.drop o)).map .of)
   | _=>none
  | _,_=>none
 | none=>none
def dG (T:TT) (t:Nat) (x i:X):Out:=match acg i with
 | none=>none
 | some i=>match T t with
  | some {und:=.slice e,..}=>match T e,acL x with
   | some d,some (cs,n)=>if 0≤i∧i<(n:Int)∧cs.length=n*d.size∧0<d.size then out (.of (.ref (cs.drop (i.toNat*d.size)))) else none
   | _,_=>none
  | some {und:=.array n e,..}=>match T e with
   | some d=>if 0≤i∧i<(n:Int) then match x with
    | .ptr r off=>out (.ptr r (off+i.toNat*d.size))
    | .of (.ref cs)=>out (.of (.ref (cs.drop (i.toNat*d.size))))
    | _=>none else none
   | none=>none
  | _=>none
def adb (T:TT) (t:Nat) (x i:X):Out:=match acg i with
 | none=>none
 | some i=>match x with
  | .of (.lit (.string s))=>if h:ada ((T t).map (·.und))=true∧0≤i∧i.toNat<s.size then out (.of (.lit (.int .u8 (s[i.toNat]'h.2.2).toNat))) else none
  | .agg xs=>match T t with
   | some {und:=.array n e,..}=>match T e with
    | some d=>if 0≤i∧i<(n:Int) then dB (gR T e (xs.drop (i.toNat*d.size))) else none
    | none=>none
   | _=>none
  | .of (.agg cs)=>match T t with
   | some {und:=.array n e,..}=>match T e with
    | some d=>if 0≤i∧i<(n:Int) then dB ((cB T e (cs.drop (i.toNat*d.size))).map .of) else none
    | none=>none
   | _=>none
  | _=>none
def att:Option TypeDesc→Bool
 | some (.slice _)=>true
 | _=>false
def abx (u:Option TypeDesc) (x:X):Out:=match x with
 | .of (.lit (.string s))=>if ada u then out (aU s.size) else none
 | x=>match acL x with
  | some (_,n)=>if att u then out (aU n) else none
  | none=>none
def aef:List C→Option (List UInt8)
 | []=>some []
 | .lit (.int .u8 n)::r=>(aef r).map (UInt8.ofNat n.toNat::·)
 | _=>none
def ajh (T:TT) (src:Option TD) (x:X):Out:=match src,acL x with
 | some {und:=.slice e,..},some (cs,n)=>if aia (T e)=true∧cs.length=n then dB ((aef cs).map fun l=>dw ⟨l.toArray⟩) else none
 | _,_=>none
def ad4 (T:TT) (src dst:Nat) (x:X):Out:=match T src,(T dst).map (·.und),x with
 | some _,some (TypeDesc.int k),.of (.lit (.int _ n))=>out (.of (.lit (.int k (k.wrap n))))
 | some _,some TypeDesc.string,.of (.lit (.string s))=>out (.of (.lit (.string s)))
 | d,some TypeDesc.string,x=>ajh T d x
 | _,_,_=>none
def atv (T:TT) (a e:Nat) (s:ByteArray):Out:=if ada ((T a).map (·.und))&&aia (T e) then out (.of (.sl (aed s) s.size)) else none
def afN (T:TT) (a b:Nat) (x:X):Out:=match (T b).map (·.und),x with
 | some (TypeDesc.slice e),.of (.lit (.string s))=>atv T a e s
 | _,x=>ad4 T a b x
def aa7 (kind:TypeDesc) (k:Value):List (Value×C)→Nat→Option (Option Nat)
 | [],_=>some none
 | e::es,i=>match Instr.sameNow kind k e.1 with
  | some true=>some (some i)
  | some false=>aa7 kind k es (i+1)
  | none=>none
def anf:TypeDesc→Bool
 | .int _=>true
 | .string=>true
 | .bool=>true
 | _=>false
def fY:X→Option Value
 | .of (.lit v)=>some v
 | _=>none
def acP (objs:List Ob):X→Option (List (Value×C))
 | .mp r=>match objs[r]? with
  | some (.map es)=>some es
  | _=>none
 | .of (.lit (.map none))=>some []
 | _=>none
def ah0 (T:TT) (t:Nat):Option X:=match T t with
 | some d=>gR T t (ik d)
 | none=>none
def acO (T:TT) (t:Nat):Option (TypeDesc×Nat):=match T t with
 | some {und:=.map kt et,..}=>match (T kt).map (·.und) with
  | some kind=>if anf kind then some (kind,et) else none
  | none=>none
 | _=>none
def ajx:Option TypeDesc→Value→Bool
 | some (.int _),.int _ _=>true
 | some .string,.string _=>true
 | some .bool,.bool _=>true
 | _,_=>false
def adg (T:TT):Nat→List Field→List C→List C→Option Bool
 | _,[],[],[]=>some true
 | o,f::fs,.lit u::r,.lit v::q =>
  if f.name != "_"&&f.offset == o&&ajx ((T f.type).map (·.und)) u&&ajx ((T f.type).map (·.und)) v then match aic u v with
   | some true=>adg T (o+1) fs r q
   | b=>b
  else none
 | _,_,_,_=>none
def ad0 (P:Program) (T:TT) (t:Nat) (cs ds:List C):Option Bool:=match T t with
 | some {und:=.struct fs,..}=>if P.stoodInHeld t=false∧P.eqGuardType P.depth t=false then adg T 0 fs.toList cs ds else none
 | _=>none
def ahK (P:Program) (T:TT) (t:Nat) (op:BinOp):Option C→Option C→Out
 | some (.agg cs),some (.agg ds)=>match op with
  | .eql=>dB ((ad0 P T t cs ds).map aG)
  | .neq=>dB ((ad0 P T t cs ds).map fun b=>aG (!b))
  | _=>none
 | _,_=>none
def gS (P:Program) (T:TT) (t:Nat) (u:Option TypeDesc) (op:BinOp) (x y:X):Out:=match fY x,fY y with
 | some a,some b=>dB ((aaK u op a b).map fun v=>.of (.lit v))
 | _,_=>ahK P T t op x.rd y.rd
def jf (T:TT) (objs:List Ob) (t:Nat) (x k:X) (ok:Bool):Out:=match acO T t,fY k,acP objs x with
 | some (kind,et),some kv,some es=>match aa7 kind kv es 0 with
  | some (some i)=>dB ((es[i]?).map fun e=>if ok then .tup [.of e.2,aG true] else .of e.2)
  | some none=>dB ((ah0 T et).map fun z=>if ok then .tup [z,aG false] else z)
  | none=>none
 | _,_,_=>none
def aeG (kind:TypeDesc) (k:Value) (c:C) (es:List (Value×C)):Option (List (Value×C)):=match aa7 kind k es 0 with
 | some (some i)=>some (es.set i (k,c))
 | some none=>some (es++[(k,c)])
 | none=>none
def aLZ (kind:TypeDesc) (k:Value) (es:List (Value×C)):Option (List (Value×C)):=match aa7 kind k es 0 with
 | some (some i)=>some (es.eraseIdx i)
 | some none=>some es
 | none=>none
structure An where
 pan:Bool
 rs:List X
 obs:List Ob
abbrev Orc:=Nat→List X→List Ob→Option An
structure En where
 orc:Orc
 obj:Nat→Bool
 tk:Nat→Bool
 mt:String→Option Nat→Bool
def aen:List X→X
 | [x]=>x
 | xs=>.tup xs
def ak (P:Program) (f:Nat):Bool:=match P.funcs[f]? with
 | some fn=>fn.body.isSome&&!(fn.name == "runtime.NumGoroutine")
 | none=>false
def acf (clk ix:Nat):Tk→Option Tk
 | .nm 0 0 i=>some (.nm clk ix i)
 | _=>none
def agD (clk ix:Nat) (xs:List X):List X:=X.trs (fun _=>none) (acf clk ix) xs
def aey (P:Program) (E:En) (clk ix f:Nat) (cs:List C):Out :=
 if ak P f&&!E.obj f then match E.orc f (cs.map .of) [] with
  | some ⟨false,rs,[]⟩=>out (aen (agD clk ix rs))
  | _=>none
 else none
def aLt:Option TypeDesc→Bool
 | none=>false
 | some (.interface _)=>false
 | some _=>true
def auZ (x y:X):Out:=match acg x,acg y with
 | some a,some b=>out (aU (if b<a then b else a))
 | _,_=>none
def aob (x y:X):Out:=match acg x,acg y with
 | some a,some b=>out (aU (if a<b then b else a))
 | _,_=>none
def af5 (P:Program) (T:TT) (E:En) (s:S) (ix:Nat):Callee→List Operand→List Nat→Out
 | .builtin .len,[x],[t]=>abx ((T t).map (·.und)) (s.ev x)
 | .builtin .append,[a,b],[st,xt]=>js T (.nm s.clk ix 0) st xt (s.ev a) (s.ev b)
 | .builtin .min,[a,b],_=>auZ (s.ev a) (s.ev b)
 | .builtin .max,[a,b],_=>aob (s.ev a) (s.ev b)
 | .value f,args,_=>match s.ev f,aay s.ev args with
  | .of (.fn f caps),some cs=>aey P E s.clk ix f (cs++caps)
  | _,_=>none
 | _,_,_=>none
def afq:X→Option X
 | .of c=>some (.of c)
 | .nil=>some .nil
 | .own _ _ _ cs n=>some (.of (.sl cs n))
 | .ptr r o=>some (.ptr r o)
 | _=>none
def abF:List X→Option (List X)
 | []=>some []
 | x::l=>match afq x,abF l with
  | some y,some r=>some (y::r)
  | _,_=>none
def ajD (f:Nat):Option (List X)→Out
 | some xs=>out (.clo f xs)
 | none=>none
def ahX (g:Nat):Nat:=g / 2
def alm (g:Nat) (caps args:List X):List X:=if g % 2=0 then args++caps else caps++args
def val (P:Program) (T:TT) (E:En) (s:S) (ix:Nat) (o:Oper):Out :=
 match o.op with
 | .move x | .assign x=>out (s.ev x)
 | .pick c a b=>match ac1 (s.ev c) with
  | some b'=>out (if b' then s.ev a else s.ev b)
  | none=>none
 | .binOp op t x y _=>gS P T t ((T t).map (·.und)) op (s.ev x) (s.ev y)
 | .unOp op _ x=>match s.ev x with
  | .of (.lit u)=>dB ((aoJ op u).map fun v=>.of (.lit v))
  | _=>none
 | .load t a=>acQ T s.objs t (s.ev a)
 | .fieldAddr t x f=>abm T t f (s.ev x)
 | .field t x f=>afB T t f (s.ev x)
 | .indexAddr t x i=>dG T t (s.ev x) (s.ev i)
 | .index t x i=>adb T t (s.ev x) (s.ev i)
 | .slice t x lo hi none=>aao T t (s.ev x) (lo.map s.ev) (hi.map s.ev)
 | .build t ps=>match T t,jn s.ev ps.toList with
  | some d,some qs=>match d.und with
   | .struct _=>dB ((iY (fun i=>d.fields[i]?) (ik d) qs).map .agg)
   | .array _ e=>match T e with
    | some de=>dB ((iY (fun i=>some (i*de.size,de.size)) (ik d) qs).map .agg)
    | none=>none
   | _=>none
  | _,_=>none
 | .buildSlice t' n ps=>match elemOf T t',jn s.ev ps.toList with
  | some (e,d),some qs =>
   if n*d.size≤16777216∧0<d.size∧d.zero.length=d.size then match iY (fun i=>some (i*d.size,d.size)) ((List.replicate n (ik d)).flatten) qs with
    | some xs=>match X.rds xs with
     | some cs=>out (.own (.nm s.clk ix 0) e d.size cs n)
     | none=>none
    | none=>none
   else none
  | _,_=>none
 | .extract x i=>match s.ev x with
  | .tup xs=>dB (xs[i]?)
  | .of (.tup cs)=>dB ((cs[i]?).map .of)
  | _=>none
 | .nilCheck x=>match s.ev x with
  | .ptr r off=>out (.ptr r off)
  | .of (.ref cs)=>out (.of (.ref cs))
  | _=>none
 | .makeFunc (.func f) first caps=>if first.size=0 then match aay s.ev caps.toList with
  | some cs=>out (.of (.fn f cs))
  | none=>ajD (2*f) (abF (caps.toList.map s.ev))
  else if caps.size=0 then ajD (2*f+1) (abF (first.toList.map s.ev)) else none
 | .convert a b x=>afN T a b (s.ev x)
 | .lookup t x i ok=>jf T s.objs t (s.ev x) (s.ev i) ok
 | .makeInterface t x=>match aLt ((T t).map (·.und)),(s.ev x).rd with
  | true,some c=>out (.of (.ifc t c))
  | _,_=>none
 | .call {callee:=cal,args:=args,argTypes:=tys}=>af5 P T E s ix cal args.toList tys.toList
 | .alloc t=>match T t with
  | some d=>if 0<d.size then out (.nw (some (.nm s.clk ix 0)) t d.size) else none
  | none=>none
 | .store t (.tmp d) x=>match T t,s.fr d,gA (s.ev x),o.guard,o.dst with
  | some td,.nw (some tk) ty z,some cs,none,none=>if ty=t∧z=td.size∧cs.length=z then some (.of (.ref cs),some tk) else none
  | _,_,_,_,_=>none
 | _=>none
def fv (o:Oper):Option Nat:=match o.op,o.guard with
 | .store _ (.tmp d) _,none=>some d
 | _,_=>o.dst
def abg (clk:Nat) (after:List Edge):Option Tk→Bool
 | some (.nm c ix _)=>decide (c<clk)||(decide (c=clk)&&after.any fun e=>Region.binds .any e&&e.on == ix)
 | _=>true
def gW (P:Program) (T:TT) (E:En) (s:S) (ix:Nat) (o:Oper):Option (Option X×S):=match val P T E s ix o with
 | some (x,t)=>if abg s.clk o.after.toList t=true then some (none,(s.drop t).put (fv o) x) else none
 | none=>none
def fU (r:Nat):Nat→List X→List (Tk×Tk)
 | _,[]=>[]
 | off,.own t _ _ _ _::l=>(t,.cell r off)::fU r (off+1) l
 | off,_::l=>fU r (off+1) l
def adA:List (Tk×Tk)→Tk→Option Tk
 | [],_=>none
 | (a,b)::l,t=>if a=t then some b else adA l t
def adH (r off n:Nat) (mv:List (Tk×Tk)) (t:Tk):Option Tk:=match adA mv t with
 | some t'=>some t'
 | none=>match t with
  | .cell r' o'=>if r'=r∧off≤o'∧o'<off+n then none else some t
  | .nm ..=>some t
def abB:List X→Bool
 | []=>true
 | .own ..::_=>false
 | _::l=>abB l
def S.tr (ρ:Tk→Option Tk) (s:S):S:={s with fr:=fun j=>(s.fr j).tr some ρ,objs:=s.objs.map (Ob.tr some ρ)}
def aog (r off:Nat) (xs ys:List X) (s:S):S:=if abB xs&&abB ys then s else s.tr (adH r off xs.length (fU r off xs))
def akh (s:S) (d:Option Nat) (ty:Nat) (xs:List X):S:=(aog s.objs.length 0 xs [] {s with objs:=s.objs++[Ob.var ty xs]}).put d (.ptr s.objs.length 0)
def ana (s:S) (j ty:Nat) (xs:List X):S:={s with objs:=s.objs++[Ob.var ty xs]}.put (some j) (.ptr s.objs.length 0)
def ago (s:S) (d:Option Nat) (n r off:Nat) (xs:List X):Option S:=match s.objs[r]? with
 | some (.var ty ys)=>if xs.length=n∧off+xs.length≤ys.length then
   some ((aog r off xs ((ys.drop off).take xs.length) {s with objs:=s.objs.set r (Ob.var ty (ys.take off++xs++ys.drop (off+xs.length)))}).put d (.of .undef))
  else none
 | _=>none
def aht (s:S) (c:Callee) (args:List Operand):Option (Nat×List X):=match c with
 | .value f=>match s.ev f with
  | .of (.fn g caps)=>some (g,args.map s.ev++caps.map .of)
  | .clo g caps=>some (ahX g,alm g caps (args.map s.ev))
  | _=>none
 | _=>none
def anv (s:S) (ix:Nat) (d:Option Nat) (refs:List Nat) (ts:List Tk) (an:An):Option (Option X×S) :=
 let σ:=fun i=>some (fJ refs s.objs.length i)
 let ρ:=fx refs s.objs.length s.clk ix
 if refs.length≤an.obs.length then
  let s':S:={s with fr:=fun j=>(s.fr j).tr some (aar refs ts),objs:=jv σ ρ (s.objs.map (Ob.tr some (aar refs ts))) refs an.obs++(an.obs.drop refs.length).map (Ob.tr σ ρ)}
  match an with
  | ⟨true,[x],_⟩=>some (some (x.tr σ ρ),s')
  | ⟨true,_,_⟩=>none
  | ⟨false,rs,_⟩=>some (none,s'.put d (aen (X.trs σ ρ rs)))
 else none
def aho (P:Program) (E:En) (s:S) (ix:Nat) (d:Option Nat) (f:Nat) (us:List X):Option (Option X×S) :=
 if ak P f then
  let refs:=aah s.objs 999 (X.refsL us) []
  let ts:=if E.tk f then nub (X.toksL us) [] else []
  match je (pos refs) (aa6 refs ts) (aeO ts s.objs) refs with
  | some obs=>match E.orc f (X.trs (pos refs) (aa6 refs ts) us) obs with
   | some an=>anv s ix d refs ts an
   | none=>none
  | none=>none
 else none
def abY (P:Program) (T:TT) (E:En) (dr:Bool) (s:S) (ix:Nat) (o:Oper):Option (Option X×S) :=
 if dr then gW P T E s ix o else
 match o.op with
 | .alloc t=>if E.mt o.pos o.dst then match T t with
   | some d=>some (none,akh s o.dst t (ik d))
   | none=>none
  else gW P T E s ix o
 | .box t x=>if E.mt o.pos o.dst then match T t,d5 (s.ev x) with
   | some d,some xs=>if xs.length=d.size then some (none,akh s o.dst t xs) else none
   | _,_=>none
  else match T t,gA (s.ev x) with
   | some d,some cs=>if cs.length=d.size∧0<d.size then some (none,s.put o.dst (.of (.ref cs))) else none
   | _,_=>none
 | .store t a x=>match s.ev a with
  | .nw (some tk) ty z=>if E.mt o.pos (fv o) then match T t,d5 (s.ev x),fv o with
    | some d,some xs,some j=>if ty=t∧z=d.size∧xs.length=z∧abg s.clk o.after.toList (some tk)=true∧o.dst=none then some (none,ana (s.drop (some tk)) j t (X.drops tk xs)) else none
    | _,_,_=>none
   else gW P T E s ix o
  | _=>match T t,s.ev a,d5 (s.ev x) with
   | some d,.ptr r off,some xs=>(ago s o.dst d.size r off xs).map fun s=>(none,s)
   | _,_,_=>none
 | .makeMap _ none=>some (none,{s with objs:=s.objs++[Ob.map []]}.put o.dst (.mp s.objs.length))
 | .mapUpdate t m k x=>match acO T t,s.ev m,fY (s.ev k),(s.ev x).rd with
  | some (kind,_),.mp r,some kv,some c=>match s.objs[r]? with
   | some (.map es)=>match aeG kind kv c es with
    | some es'=>some (none,{s with objs:=s.objs.set r (Ob.map es')}.put o.dst (.of .undef))
    | none=>none
   | _=>none
  | _,_,_,_=>none
 | .insert t m k x=>match acO T t,s.ev m,fY (s.ev k),(s.ev x).rd with
  | some (kind,_),.mp r,some kv,some c=>match s.objs[r]? with
   | some (.map es)=>match aeG kind kv c es with
    | some es'=>some (none,{s with objs:=s.objs.set r (Ob.map es')}.put o.dst (.of .undef))
    | none=>none
   | _=>none
  | _,_,_,_=>none
 | .call {callee:=.builtin .delete,args:=args,argTypes:=tys}=>match args.toList,tys.toList with
  | [m,k],[t,_]=>match acO T t,s.ev m,fY (s.ev k) with
   | some (kind,_),.mp r,some kv=>match s.objs[r]? with
    | some (.map es)=>match aLZ kind kv es with
     | some es'=>some (none,{s with objs:=s.objs.set r (Ob.map es')}.put o.dst (.tup []))
     | none=>none
    | _=>none
   | _,_,_=>none
  | _,_=>none
 | .panic x=>match (s.ev x).rd with
  | some (.ifc t c)=>some (some (.of (.ifc t c)),s)
  | _=>none
 | .call {callee:=.value f,args:=args,argTypes:=_}=>match aht s (.value f) args.toList with
  | some (g,us)=>if E.obj g then aho P E s ix o.dst g us else gW P T E s ix o
  | none=>none
 | _=>gW P T E s ix o
def fy (ops:Array Oper) (s:S) (o:Oper):Option Bool :=
 match o.guard with
 | none=>some true
 | some (j,want)=>match (ops[j]?).bind (·.dst) with
  | some d=>match s.fr d with
   | .of (.lit (.bool b))=>some (b == want)
   | .of .undef=>some false
   | _=>none
  | none=>some false
def df (P:Program) (T:TT) (E:En) (dr:Bool) (ops:Array Oper) (s:S) (ix:Nat) (o:Oper):Option (Option X×S) :=
 match fy ops s o with
 | some true=>abY P T E dr s ix o
 | some false=>some (none,s.put o.dst (.of .undef))
 | none=>none
def abE (P:Program) (T:TT) (E:En) (dr:Bool) (ops:Array Oper):Nat→List Oper→S→Option (Option X×S)
 | _,[],s=>some (none,s)
 | k,o::r,s=>match df P T E dr ops s k o with
  | some (none,s')=>abE P T E dr ops (k+1) r s'
  | some (some x,s')=>some (some x,s')
  | none=>none
def d9:Op→Bool
 | .store ..=>true
 | _=>false
def jm:List Oper→Bool
 | []=>false
 | [o]=>d9 o.op&&o.guard.isNone
 | _::o::l=>jm (o::l)
def ic (obj:Nat→Bool):Op→Bool
 | .call {callee:=.value (.func g),args:=args,..}=>args.isEmpty&&obj g
 | _=>false
def ag1 (obj:Nat→Bool):List Oper→Bool
 | []=>false
 | o::_=>ic obj o.op&&o.guard.isNone
def spB (obj:Nat→Bool) (l:List Oper):Bool:=ag1 obj l||jm l
def mkA (P:Program) (E:En):Op→Option (List (Value×C))
 | .call {callee:=.value (.func g),..}=>if ak P g then match E.orc g [] [] with
  | some ⟨false,[.mp 0],[.map es]⟩=>some es
  | _=>none
  else none
 | _=>none
def mkS (P:Program) (E:En) (s:S) (o:Oper):Option S:=(mkA P E o.op).map fun es=>{s with objs:=s.objs++[Ob.map es]}.put o.dst (.mp s.objs.length)
def abI (P:Program) (T:TT) (E:En) (ops:Array Oper):Nat→List Oper→S→Option (Option X×S)
 | _,[],_=>none
 | k,[o],s=>match df P T E false ops s k o with
  | some (none,s')=>some (none,s')
  | _=>none
 | k,o::o'::l,s=>match df P T E true ops s k o with
  | some (none,s')=>abI P T E ops (k+1) (o'::l) s'
  | _=>none
def ald (P:Program) (T:TT) (E:En) (ops:Array Oper) (l:List Oper) (s:S):Option (Option X×S) :=
 if jm l=true then abI P T E ops 0 l s else match l with
  | o::r=>match mkS P E s o with
   | some s1=>abE P T E true ops 1 r s1
   | none=>none
  | []=>none
def opK:Op→Nat
 | .store ..=>1
 | .assign _=>2
 | .alloc _=>3
 | .load _ _=>4
 | _=>0
def aMi:Op→Option Nat
 | .store _ (.tmp d) _=>some d
 | _=>none
def aiY:List Oper→Option Nat
 | []=>none
 | [_]=>none
 | [o,o']=>if (d9 o.op&&o.guard.isNone&&(o'.guard.isNone&&(d9 o'.op||opK o'.op == 2)))=true then aMi o.op else none
 | _::o::o'::l=>aiY (o::o'::l)
def eqD:Option Nat→Nat→Bool
 | some a,d=>a == d
 | none,_=>false
def ajV (d:Nat):List Oper→Bool
 | []=>false
 | o::l=>(opK o.op == 3&&eqD o.dst d)||ajV d l
def tlM (l:List Oper):Option Nat→Bool
 | some d=>!ajV d l
 | none=>false
def tlB (l:List Oper):Bool:=tlM l (aiY l)
def aDM (s:S):Op→Bool
 | .load _ a=>match s.ev a with
  | .of (.ref _)=>true
  | _=>false
 | _=>false
def aei (s:S) (o:Oper):Bool:=!(opK o.op == 4)||aDM s o.op
def agK (P:Program) (T:TT) (E:En) (ops:Array Oper):Nat→List Oper→S→Option (Option X×S)
 | k,o::o'::o''::l,s=>if aei s o=true then match df P T E true ops s k o with
   | some (none,s')=>agK P T E ops (k+1) (o'::o''::l) s'
   | _=>none
  else none
 | k,[o,o'],s=>match df P T E false ops s k o with
  | some (none,s')=>match df P T E false ops s' (k+1) o' with
   | some (none,s'')=>some (none,s'')
   | _=>none
  | _=>none
 | _,_,_=>none
def acH (obj:Nat→Bool):Op→Bool
 | .call {callee:=.value (.func g),..}=>obj g
 | _=>false
def abS (obj:Nat→Bool):List Oper→Nat
 | []=>0
 | [o]=>if (acH obj o.op&&o.guard.isNone)=true then 1 else 0
 | [o,o']=>if (acH obj o'.op&&o'.guard.isNone)=true then 1 else if (acH obj o.op&&o.guard.isNone&&(opK o'.op == 2&&o'.guard.isNone))=true then 2 else 0
 | _::o::o'::l=>abS obj (o::o'::l)
def okS:Option (Option X×S)→Option S
 | some (none,s)=>some s
 | _=>none
def kM (obj:Nat→Bool) (o:Oper):Bool:=ic obj o.op&&o.guard.isNone
def stX (P:Program) (T:TT) (E:En) (ops:Array Oper) (t:Bool) (s:S) (i:Nat) (o:Oper):Option S :=
 if t=true then okS (df P T E false ops s i o) else if kM E.obj o=true then mkS P E s o else okS (df P T E true ops s i o)
def evD (P:Program) (T:TT) (E:En) (ops:Array Oper) (n:Nat):Nat→Bool→List Oper→S→Option S
 | _,_,[],s=>some s
 | k,b,o::l,s =>
  if (b&&(!decide (l.length<n)&&kM E.obj o))=true then none else match stX P T E ops (decide (l.length<n)) s k o with
   | some s'=>evD P T E ops n (k+1) (b||(!decide (l.length<n)&&kM E.obj o)) l s'
   | none=>none
def evR (P:Program) (T:TT) (E:En) (draw:Bool) (ops:Array Oper) (s:S):Option (Option X×S) :=
 if (draw&&tlB ops.toList)=true then agK P T E ops 0 ops.toList s
 else if (draw&&!(abS E.obj ops.toList == 0))=true then (evD P T E ops (abS E.obj ops.toList) 0 false ops.toList s).map fun s=>(none,s)
 else if (draw&&spB E.obj ops.toList)=true then ald P T E ops ops.toList s else abE P T E draw ops 0 ops.toList s
def apw (o:Oper):Bool:=match o.op,o.guard with
 | .extract _ _,none=>true
 | _,_=>false
def ajW (ops:Array Oper) (i:Nat):Bool:=match ops[i]?,ops[ops.size-1]? with
 | some o,some l=>apw o&&match fv l with
  | some d=>!(o.looksAt ops).contains d&&o.dst != some d
  | none=>true
 | _,_=>false
def amj (ops:Array Oper):Bool:=(List.range (ops.size-1)).all fun i=>ajW ops i||(List.range ops.size).any fun k=>decide (i<k)&&match ops[k]? with
 | some o=>!apw o&&o.after.any fun e=>Region.binds .any e&&e.on == i
 | none=>false
inductive Ex where
 | normal
 | exit (id:Nat)
 | ret
 | pan (x:X)
def agH (xs:List X) (obs:List Ob):S:={fr:=fun j=>xs.getD j (.of .undef),objs:=obs,clk:=1}
def ab6 (T:TT) (s:S):List ResultVar→Option (List X)
 | []=>some []
 | .tmp t::r=>(ab6 T s r).map (s.fr t::·)
 | .cell a t::r=>match acQ T s.objs t (s.fr a),ab6 T s r with
  | some (x,_),some q=>some (x::q)
  | _,_=>none
def aex (m:Nat) (pan:Bool) (rs:List X) (objs:List Ob):Option An :=
 let refs:=aah objs 999 (X.refsL rs++((objs.take m).map Ob.refs).flatten) (List.range m)
 let ts:=(nub (X.toksL rs) []).filter fun t=>match t with
  | .nm ..=>true
  | .cell r _=>!decide (r∈refs)
 (je (pos refs) (aa6 refs ts) objs refs).map fun obs=>⟨pan,X.trs (pos refs) (aa6 refs ts) rs,obs⟩
def afe (N:Nat) (o:Oper):Bool:=(match o.dst with
 | some d=>decide (d<N)
 | none=>true)&&match fv o with
 | some d=>decide (d<N)
 | none=>true
def afJ (ops:Array Oper) (i:Nat):Bool:=match ops[i]? with
 | some o=>match fv o with
  | some d=>o.dst.isNone&&(List.range ops.size).all fun j=>j == i||match ops[j]? with
   | some oj=>!(oj.looksAt ops).contains d&&(fv oj != some d||(!d9 oj.op&&o.after.any fun e=>Region.binds .any e&&e.on == j))
   | none=>true
  | none=>false
 | none=>false
def aiz (ops:Array Oper):Bool:=(List.range ops.size).all fun i=>match ops[i]? with
 | some o=>!d9 o.op||(jm ops.toList&&i+1 == ops.size)||afJ ops i
 | none=>true
def ajG (ops:Array Oper) (k j:Nat):Bool:=match ops[k]? with
 | some o=>o.after.any fun e=>Region.binds .any e&&e.on == j
 | none=>false
def au8 (ops:Array Oper) (i m:Nat):Bool:=match ops[i]?,ops[m]? with
 | some o,some l=>(opK o.op == 4&&o.guard.isNone)&&match fv l with
  | some d=>!(o.looksAt ops).contains d&&o.dst != some d
  | none=>true
 | _,_=>false
def aiy (ops:Array Oper):Bool:=((List.range (ops.size-2)).all fun i=>(match ops[i]? with
 | some o=>!d9 o.op
 | none=>true)&&(ajG ops (ops.size-2) i||au8 ops i (ops.size-2)))&&(List.range (ops.size-1)).all fun j=>ajG ops (ops.size-1) j
def wB (ops:Array Oper) (i:Nat):Nat→Nat→Bool
 | 0,_=>false
 | f+1,j=>match ops[j]? with
  | some o=>o.after.any fun e=>Region.binds .any e&&(e.on == i||wB ops i f e.on)
  | none=>false
def aDW (ops:Array Oper) (n:Nat):Bool:=(List.range ops.size).all fun t=>decide (t+n<ops.size)||(List.range t).all fun i=>wB ops i ops.size t
def aDA:Op→Bool
 | .call {callee:=.value (.func _),args:=args,..}=>args.isEmpty
 | _=>false
def aoj:Op→Bool
 | .lookup ..=>true
 | _=>false
def opP (ops:Array Oper) (p:Op→Bool) (i:Nat):Bool:=match ops[i]? with
 | some o=>p o.op
 | none=>false
def apy (ops:Array Oper):Bool:=(List.range ops.size).all fun m=>!opP ops aDA m||(List.range ops.size).all fun j=>!opP ops aoj j||wB ops m ops.size j
def aCP (N:Nat) (ops:Array Oper) (draw:Bool):Bool:=ops.all (afe N)&&(!draw||(Region.lexB .any ops&&(aDW ops (abS (fun _=>true) ops.toList)&&apy ops)&&if tlB ops.toList then aiy ops else aiz ops&&(!jm ops.toList||amj ops)))
def aeb (N:Nat):Code→Bool
 | .region _ ops draw=>aCP N ops draw
 | .seq a b=>aeb N a&&aeb N b
 | .cond _ a b=>aeb N a&&aeb N b
 | .block _ c=>aeb N c
 | .loop c=>aeb N c
 | _=>true
def amw (P:Program) (f:Nat):Code:=match P.funcs[f]? with
 | some fn=>fn.body.getD .skip
 | none=>.skip
def ap6 (P:Program) (f:Nat):Nat:=match P.funcs[f]? with
 | some fn=>fn.ntmps
 | none=>0
def aeg (P:Program) (f:Nat):List ResultVar:=match P.funcs[f]? with
 | some fn=>fn.results.toList
 | none=>[]
def aDN (P:Program) (f:Nat):Bool:=match P.funcs[f]? with
 | some fn=>fn.body.isSome&&aeb fn.ntmps (fn.body.getD .skip)
 | none=>false
structure Pr where
 prim:Orc
 obj:Nat→Bool
 tk:Nat→Bool
 keep:Nat→Bool
 mt:String→Option Nat→Bool
def aoX (x:X):Option C→X
 | some c=>.of c
 | none=>x
def ai1 (x:X):X:=aoX x x.rd
def afP (keep:Bool) (rs:List X):List X:=match keep with
 | true=>rs
 | false=>rs.map ai1
def amr (P:Program) (T:TT) (keep:Nat→Bool) (run:Code→S→Option (Ex×S)) (f:Nat) (xs:List X) (obs:List Ob):Option An :=
 if aDN P f=true∧xs.length≤ap6 P f then match run (amw P f) (agH xs obs) with
  | some (.normal,s)=>(ab6 T s (aeg P f)).bind fun rs=>aex obs.length false (afP (keep f) rs) s.objs
  | some (.ret,s)=>(ab6 T s (aeg P f)).bind fun rs=>aex obs.length false (afP (keep f) rs) s.objs
  | some (.pan x,s)=>aex obs.length true [x] s.objs
  | _=>none
 else none
def apb (P:Program) (T:TT) (pr:Pr) (run:Code→S→Option (Ex×S)):Orc:=fun f xs obs =>
 match pr.prim f xs obs with
 | some r=>some r
 | none=>amr P T pr.keep run f xs obs
def ajA (P:Program) (T:TT) (pr:Pr) (run:Code→S→Option (Ex×S)):En:=⟨apb P T pr run,pr.obj,pr.tk,pr.mt⟩
def evC (P:Program) (T:TT) (pr:Pr):Nat→Code→S→Option (Ex×S)
 | 0,_,_=>none
 | n+1,c,s=>match c with
  | .skip=>some (.normal,s)
  | .ret=>some (.ret,s)
  | .exit i=>some (.exit i,s)
  | .seq a b=>match evC P T pr n a s with
   | some (.normal,s')=>evC P T pr n b s'
   | r=>r
  | .block i c=>match evC P T pr n c s with
   | some (.exit j,s')=>some (if j=i then .normal else .exit j,s')
   | r=>r
  | .cond c a b=>match ac1 (s.ev c) with
   | some true=>evC P T pr n a s
   | some false=>evC P T pr n b s
   | none=>none
  | .loop c=>match evC P T pr n c s with
   | some (.normal,s')=>evC P T pr n (.loop c) s'
   | r=>r
  | .region _ ops draw=>match evR P T (ajA P T pr (evC P T pr n)) draw ops s with
   | some (none,s')=>some (.normal,{s' with clk:=s'.clk+1})
   | some (some x,s')=>some (.pan x,{s' with clk:=s'.clk+1})
   | none=>none
  | _=>none
end Go.Pe
namespace Go.Pe
open Go.RowKit
abbrev Mem:=Nat→Nat→Option Value
mutual
def Rep (m:Mem):C→Value→Prop
 | .any,_=>True
 | .undef,v=>v=undef
 | .lit u,v=>v=u∧u.oneCell'=true
 | .sl cs n,v=>∃ a cap vs,v=.slice a n cap∧n≤cap∧cL m cs vs∧(vs≠[]→∃ b o,a=some ⟨b,o,none⟩∧∀ i u,vs[i]?=some u→m b (o+i)=some u)
 | .ref cs,v=>∃ b o vs,v=.pointer (some ⟨b,o,none⟩)∧cL m cs vs∧∀ i u,vs[i]?=some u→m b (o+i)=some u
 | .fn f caps,v=>∃ vs:List Value,v=.func (.func f) #[] vs.toArray∧cL m caps vs
 | .agg cs,v=>∃ vs:List Value,v=.agg vs.toArray∧(∀ u∈vs,u.oneCell'=true)∧cL m cs vs
 | .tup cs,v=>∃ vs:List Value,v=.tuple vs.toArray∧cL m cs vs
 | .ifc t c,v=>∃ u,v=.iface t u∧Rep m c u
def cL (m:Mem):List C→List Value→Prop
 | [],vs=>vs=[]
 | c::cs,vs=>∃ v r,vs=v::r∧Rep m c v∧cL m cs r
end
def Mem.le (m m':Mem):Prop:=∀ b o v,m b o=some v→m' b o=some v
theorem Mem.le_refl (m:Mem):m.le m:=fun _ _ _ h=>h
theorem Mem.le_trans {a b c:Mem} (h:a.le b) (h':b.le c):a.le c:=fun _ _ _ x=>h' _ _ _ (h _ _ _ x)
theorem Rep.mono {m m':Mem} (h:m.le m'):∀ (c:C) (v:Value),Rep m c v→Rep m' c v :=
 C.rec (motive_1:=fun c=>∀ v,Rep m c v→Rep m' c v) (motive_2:=fun cs=>∀ vs,cL m cs vs→cL m' cs vs)
  (fun _ _=>by simp[Rep]) (fun _ h=>by simpa [Rep] using h) (fun _ _ h=>by simpa [Rep] using h)
  (fun cs n ih v=>by
   simp only[Rep]
   rintro⟨a,cap,vs,rfl,hn,hl,hm⟩
   exact⟨a,cap,vs,rfl,hn,ih _ hl,fun hne=>by
    obtain⟨b,o,ha,hc⟩:=hm hne
    exact⟨b,o,ha,fun i u hu=>h _ _ _ (hc i u hu)⟩⟩)
  (fun cs ih v=>by
   simp only[Rep]
   rintro⟨b,o,vs,rfl,hl,hm⟩
   exact⟨b,o,vs,rfl,ih _ hl,fun i u hu=>h _ _ _ (hm i u hu)⟩)
  (fun f cs ih v=>by simp only[Rep];rintro⟨vs,rfl,hl⟩;exact⟨vs,rfl,ih _ hl⟩)
  (fun cs ih v=>by simp only[Rep];rintro⟨vs,rfl,h1,hl⟩;exact⟨vs,rfl,h1,ih _ hl⟩)
  (fun cs ih v=>by simp only[Rep];rintro⟨vs,rfl,hl⟩;exact⟨vs,rfl,ih _ hl⟩)
  (fun t c ih v=>by simp only[Rep];rintro⟨u,rfl,h⟩;exact⟨u,rfl,ih _ h⟩)
  (fun vs h=>by simpa [cL] using h)
  (fun c cs ih1 ih2 vs=>by simp only[cL];rintro⟨v,r,rfl,h1,h2⟩;exact⟨v,r,rfl,ih1 _ h1,ih2 _ h2⟩)
theorem cL.mono {m m':Mem} (h:m.le m'):∀ (cs:List C) (vs:List Value),cL m cs vs→cL m' cs vs
 | [],vs,hh=>by simpa [cL] using hh
 | c::cs,vs,hh=>by
  simp only[cL] at hh ⊢
  obtain⟨v,r,rfl,h1,h2⟩:=hh
  exact⟨v,r,rfl,Rep.mono h _ _ h1,cL.mono h _ _ h2⟩
theorem cL.length {m:Mem}:∀ {cs:List C} {vs:List Value},cL m cs vs→vs.length=cs.length
 | [],vs,h=>by simp only[cL] at h;simp[h]
 | c::cs,vs,h=>by
  simp only[cL] at h
  obtain⟨v,r,rfl,_,h2⟩:=h
  simp[cL.length h2]
theorem cL.get {m:Mem}:∀ {cs:List C} {vs:List Value},cL m cs vs→∀ (i:Nat) (c:C),cs[i]?=some c→∃ v,vs[i]?=some v∧Rep m c v
 | [],vs,h,i,c,hc=>by simp at hc
 | d::cs,vs,h,i,c,hc=>by
  simp only[cL] at h
  obtain⟨v,r,rfl,h1,h2⟩:=h
  cases i with
  | zero=>simp at hc;subst hc;exact⟨v,by simp,h1⟩
  | succ i=>simp at hc;simpa using cL.get h2 i c hc
theorem cL.drop {m:Mem}:∀ (k:Nat) {cs:List C} {vs:List Value},cL m cs vs→cL m (cs.drop k) (vs.drop k)
 | 0,cs,vs,h=>by simpa using h
 | k+1,[],vs,h=>by simp only[cL] at h;subst h;simp[cL]
 | k+1,c::cs,vs,h=>by
  simp only[cL] at h
  obtain⟨v,r,rfl,_,h2⟩:=h
  simpa using cL.drop k h2
theorem cL.take {m:Mem}:∀ (k:Nat) {cs:List C} {vs:List Value},cL m cs vs→cL m (cs.take k) (vs.take k)
 | 0,cs,vs,h=>by simp[cL]
 | k+1,[],vs,h=>by simp only[cL] at h;subst h;simp[cL]
 | k+1,c::cs,vs,h=>by
  simp only[cL] at h
  obtain⟨v,r,rfl,h1,h2⟩:=h
  simp only[abD,cL]
  exact⟨v,r.take k,rfl,h1,cL.take k h2⟩
theorem cL.append {m:Mem}:∀ {cs ds:List C} {vs us:List Value},cL m cs vs→cL m ds us→cL m (cs++ds) (vs++us)
 | [],ds,vs,us,h,h'=>by simp only[cL] at h;subst h;simpa using h'
 | c::cs,ds,vs,us,h,h'=>by
  simp only[cL] at h
  obtain⟨v,r,rfl,h1,h2⟩:=h
  simp only[bt,cL]
  exact⟨v,r++us,rfl,h1,cL.append h2 h'⟩
abbrev Own:=Tk→Option (Value×Nat×Nat×Nat)
structure Know where
 m:Mem
 μ:Nat→Option Nat
mutual
def bj (k:Know) (ow:Own):X→Value→Prop
 | .of c,v=>Rep k.m c v
 | .nil,v=>v=.slice none 0 0
 | .own t e z cs n,v=>ow t=some (v,e,z,n)∧cs.length=n*z∧Rep k.m (.sl cs n) v
 | .ptr r off,v=>∃ b,k.μ r=some b∧v=.pointer (some ⟨b,off,none⟩)
 | .mp r,v=>∃ b,k.μ r=some b∧v=.map (some b)
 | .clo f caps,v=>∃ vs:List Value,v=(if f % 2=0 then .func (.func (f / 2)) #[] vs.toArray else .func (.func (f / 2)) vs.toArray #[])∧bz k ow caps vs
 | .agg xs,v=>∃ vs:List Value,v=.agg vs.toArray∧(∀ u∈vs,u.oneCell'=true)∧bz k ow xs vs
 | .tup xs,v=>∃ vs:List Value,v=.tuple vs.toArray∧bz k ow xs vs
 | .nw none _ _,_=>True
 | .nw (some t) ty z,v=>∃ b,v=.pointer (some ⟨b,0,none⟩)∧ow t=some (.slice (some ⟨b,0,none⟩) 0 1,ty,z,0)
def bz (k:Know) (ow:Own):List X→List Value→Prop
 | [],vs=>vs=[]
 | x::xs,vs=>∃ v r,vs=v::r∧bj k ow x v∧bz k ow xs r
end
def Know.le (k k':Know):Prop:=k.m.le k'.m∧∀ r b,k.μ r=some b→k'.μ r=some b
theorem Know.le_refl (k:Know):k.le k:=⟨fun _ _ _ h=>h,fun _ _ h=>h⟩
theorem Know.le_trans {a b c:Know} (h:a.le b) (h':b.le c):a.le c:=⟨Mem.le_trans h.1 h'.1,fun _ _ x=>h'.2 _ _ (h.2 _ _ x)⟩
def Own.sub (ow ow':Own):Prop:=∀ t p,ow t=some p→ow' t=some p
theorem bj.mono {k k':Know} {ow ow':Own} (h:k.le k') (ho:ow.sub ow'):∀ (x:X) (v:Value),bj k ow x v→bj k' ow' x v :=
 X.rec (motive_1:=fun x=>∀ v,bj k ow x v→bj k' ow' x v) (motive_2:=fun xs=>∀ vs,bz k ow xs vs→bz k' ow' xs vs)
  (fun c v hh=>by simp only[bj] at hh ⊢;exact Rep.mono h.1 _ _ hh)
  (fun v hh=>by simpa only [bj] using hh)
  (fun t e z cs n v hh=>by simp only[bj] at hh ⊢;exact⟨ho _ _ hh.1,hh.2.1,Rep.mono h.1 _ _ hh.2.2⟩)
  (fun r off v hh=>by simp only[bj] at hh ⊢;obtain⟨b,hb,hv⟩:=hh;exact⟨b,h.2 _ _ hb,hv⟩)
  (fun r v hh=>by simp only[bj] at hh ⊢;obtain⟨b,hb,hv⟩:=hh;exact⟨b,h.2 _ _ hb,hv⟩)
  (fun f xs ih v hh=>by simp only[bj] at hh ⊢;obtain⟨vs,hv,hl⟩:=hh;exact⟨vs,hv,ih _ hl⟩)
  (fun xs ih v hh=>by simp only[bj] at hh ⊢;obtain⟨vs,hv,h1,hl⟩:=hh;exact⟨vs,hv,h1,ih _ hl⟩)
  (fun xs ih v hh=>by simp only[bj] at hh ⊢;obtain⟨vs,hv,hl⟩:=hh;exact⟨vs,hv,ih _ hl⟩)
  (fun o ty z v hh=>by
   cases o with
   | none=>simp[bj]
   | some t=>simp only[bj] at hh ⊢;obtain⟨b,hv,hl⟩:=hh;exact⟨b,hv,ho _ _ hl⟩)
  (fun vs hh=>by simpa only [bz] using hh)
  (fun x xs ih1 ih2 vs hh=>by simp only[bz] at hh ⊢;obtain⟨v,r,hv,h1,h2⟩:=hh;exact⟨v,r,hv,ih1 _ h1,ih2 _ h2⟩)
theorem bz.mono {k k':Know} {ow ow':Own} (h:k.le k') (ho:ow.sub ow'):∀ (xs:List X) (vs:List Value),bz k ow xs vs→bz k' ow' xs vs
 | [],vs,hh=>by simpa only [bz] using hh
 | x::xs,vs,hh=>by
  simp only[bz] at hh ⊢
  obtain⟨v,r,hv,h1,h2⟩:=hh
  exact⟨v,r,hv,bj.mono h ho _ _ h1,bz.mono h ho _ _ h2⟩
def Own.del (ow:Own) (t:Tk):Own:=fun t'=>if t'=t then none else ow t'
theorem bj.drop {k:Know} {ow:Own} (t:Tk):∀ (x:X) (v:Value),bj k ow x v→bj k (ow.del t) (x.drop t) v :=
 X.rec (motive_1:=fun x=>∀ v,bj k ow x v→bj k (ow.del t) (x.drop t) v) (motive_2:=fun xs=>∀ vs,bz k ow xs vs→bz k (ow.del t) (X.drops t xs) vs)
  (fun c v hh=>by simpa only [X.drop,bj] using hh)
  (fun v hh=>by simpa only [X.drop,bj] using hh)
  (fun t' e z cs n v hh=>by
   simp only[X.drop]
   split
   .simp only[bj] at hh ⊢;exact hh.2.2
   .rename_i hne
    simp only[bj] at hh ⊢
    exact⟨by simp only[Own.del,hne,aQ];exact hh.1,hh.2⟩)
  (fun r off v hh=>by simpa only [X.drop,bj] using hh)
  (fun r v hh=>by simpa only [X.drop,bj] using hh)
  (fun f xs ih v hh=>by simp only[X.drop,bj] at hh ⊢;obtain⟨vs,hv,hl⟩:=hh;exact⟨vs,hv,ih _ hl⟩)
  (fun xs ih v hh=>by simp only[X.drop,bj] at hh ⊢;obtain⟨vs,hv,h1,hl⟩:=hh;exact⟨vs,hv,h1,ih _ hl⟩)
  (fun xs ih v hh=>by simp only[X.drop,bj] at hh ⊢;obtain⟨vs,hv,hl⟩:=hh;exact⟨vs,hv,ih _ hl⟩)
  (fun o ty z v hh=>by
   cases o with
   | none=>simp[X.drop,afg,bj]
   | some t' =>
    simp only[X.drop,afg]
    split
    .simp[bj]
    .rename_i hne
     simp only[bj] at hh ⊢
     obtain⟨b,hv,hl⟩:=hh
     exact⟨b,hv,by simp only[Own.del,hne,aQ];exact hl⟩)
  (fun vs hh=>by simpa only [X.drops,bz] using hh)
  (fun x xs ih1 ih2 vs hh=>by simp only[X.drops,bz] at hh ⊢;obtain⟨v,r,hv,h1,h2⟩:=hh;exact⟨v,r,hv,ih1 _ h1,ih2 _ h2⟩)
theorem bz.drop {k:Know} {ow:Own} (t:Tk):∀ (xs:List X) (vs:List Value),bz k ow xs vs→bz k (ow.del t) (X.drops t xs) vs
 | [],vs,hh=>by simpa only [X.drops,bz] using hh
 | x::xs,vs,hh=>by
  simp only[X.drops,bz] at hh ⊢
  obtain⟨v,r,hv,h1,h2⟩:=hh
  exact⟨v,r,hv,bj.drop t _ _ h1,bz.drop t _ _ h2⟩
theorem bz.length {k:Know} {ow:Own}:∀ {xs:List X} {vs:List Value},bz k ow xs vs→vs.length=xs.length
 | [],vs,h=>by simp only[bz] at h;simp[h]
 | c::cs,vs,h=>by
  simp only[bz] at h
  obtain⟨v,r,rfl,_,h2⟩:=h
  simp[bz.length h2]
theorem bz.get {k:Know} {ow:Own}:∀ {xs:List X} {vs:List Value},bz k ow xs vs→∀ (i:Nat) (x:X),xs[i]?=some x→∃ v,vs[i]?=some v∧bj k ow x v
 | [],vs,h,i,c,hc=>by simp at hc
 | d::cs,vs,h,i,c,hc=>by
  simp only[bz] at h
  obtain⟨v,r,rfl,h1,h2⟩:=h
  cases i with
  | zero=>simp at hc;subst hc;exact⟨v,by simp,h1⟩
  | succ i=>simp at hc;simpa using bz.get h2 i c hc
theorem bz.dropN {k:Know} {ow:Own}:∀ (n:Nat) {xs:List X} {vs:List Value},bz k ow xs vs→bz k ow (xs.drop n) (vs.drop n)
 | 0,cs,vs,h=>by simpa using h
 | n+1,[],vs,h=>by simp only[bz] at h;subst h;simp[bz]
 | n+1,c::cs,vs,h=>by
  simp only[bz] at h
  obtain⟨v,r,rfl,_,h2⟩:=h
  simpa using bz.dropN n h2
theorem bz.takeN {k:Know} {ow:Own}:∀ (n:Nat) {xs:List X} {vs:List Value},bz k ow xs vs→bz k ow (xs.take n) (vs.take n)
 | 0,cs,vs,h=>by simp[bz]
 | n+1,[],vs,h=>by simp only[bz] at h;subst h;simp[bz]
 | n+1,c::cs,vs,h=>by
  simp only[bz] at h
  obtain⟨v,r,rfl,h1,h2⟩:=h
  simp only[abD,bz]
  exact⟨v,r.take n,rfl,h1,bz.takeN n h2⟩
theorem bz.append {k:Know} {ow:Own}:∀ {cs ds:List X} {vs us:List Value},bz k ow cs vs→bz k ow ds us→bz k ow (cs++ds) (vs++us)
 | [],ds,vs,us,h,h'=>by simp only[bz] at h;subst h;simpa using h'
 | c::cs,ds,vs,us,h,h'=>by
  simp only[bz] at h
  obtain⟨v,r,rfl,h1,h2⟩:=h
  simp only[bt,bz]
  exact⟨v,r++us,rfl,h1,bz.append h2 h'⟩
theorem bz.of {k:Know} {ow:Own}:∀ {cs:List C} {vs:List Value},cL k.m cs vs→bz k ow (cs.map .of) vs
 | [],vs,h=>by simpa [cL,bz] using h
 | c::cs,vs,h=>by
  simp only[cL] at h
  obtain⟨v,r,rfl,h1,h2⟩:=h
  simp only[aV,bz,bj]
  exact⟨v,r,rfl,h1,bz.of h2⟩
def ae3 {k:Know} {ow:Own}:∀ (x:X) (c:C) (v:Value),x.rd=some c→bj k ow x v→Rep k.m c v :=
 X.rec (motive_1:=fun x=>∀ c v,x.rd=some c→bj k ow x v→Rep k.m c v) (motive_2:=fun xs=>∀ cs vs,X.rds xs=some cs→bz k ow xs vs→cL k.m cs vs)
  (fun c c' v hr hh=>by simp only[X.rd,ae] at hr;subst hr;simpa only [bj] using hh)
  (fun c' v hr hh=>by
   simp only[X.rd,ae] at hr
   subst hr
   simp only[bj] at hh
   subst hh
   simp only[Rep]
   exact⟨none,0,[],rfl,aM _,by simp[cL],fun h=>absurd rfl h⟩)
  (fun t e z cs n c' v hr hh=>by
   simp only[X.rd,ae] at hr
   subst hr
   simp only[bj] at hh
   exact hh.2.2)
  (fun r off c' v hr hh=>by simp[X.rd] at hr)
  (fun r c' v hr hh=>by simp[X.rd] at hr)
  (fun f xs ih c' v hr hh=>by simp[X.rd] at hr)
  (fun xs ih c' v hr hh=>by
   simp only[X.rd,aP] at hr
   obtain⟨cs,hcs,rfl⟩:=hr
   simp only[bj] at hh
   obtain⟨vs,rfl,h1,hl⟩:=hh
   simp only[Rep]
   exact⟨vs,rfl,h1,ih _ _ hcs hl⟩)
  (fun xs ih c' v hr hh=>by simp[X.rd] at hr)
  (fun t ty z c' v hr hh=>by simp[X.rd] at hr)
  (fun cs vs hr hh=>by
   simp only[X.rds,ae] at hr
   subst hr
   simpa only [bz,cL] using hh)
  (fun x xs ih1 ih2 cs vs hr hh=>by
   simp only[X.rds] at hr
   split at hr
   .rename_i c cs' h1 h2
    simp only[ae] at hr
    subst hr
    simp only[bz] at hh
    obtain⟨v,r,rfl,hv,hl⟩:=hh
    simp only[cL]
    exact⟨v,r,rfl,ih1 _ _ h1 hv,ih2 _ _ h2 hl⟩
   .cases hr)
theorem akN {k:Know} {ow:Own}:∀ (xs:List X) (cs:List C) (vs:List Value),X.rds xs=some cs→bz k ow xs vs→cL k.m cs vs
 | [],cs,vs,hr,hh=>by
  simp only[X.rds,ae] at hr
  subst hr
  simpa only [bz,cL] using hh
 | x::xs,cs,vs,hr,hh=>by
  simp only[X.rds] at hr
  split at hr
  .rename_i c cs' h1 h2
   simp only[ae] at hr
   subst hr
   simp only[bz] at hh
   obtain⟨v,r,rfl,hv,hl⟩:=hh
   simp only[cL]
   exact⟨v,r,rfl,ae3 _ _ _ h1 hv,akN _ _ _ h2 hl⟩
  .cases hr
def agq {k:Know} {ow:Own} {x:X} {xs:List X} {v:Value} (hc:d5 x=some xs) (h:bj k ow x v) :
  bz k ow xs v.cells.toList∧∀ u∈v.cells.toList,u.oneCell'=true:=by
 have single:∀ (x:X),bj k ow x v→v.oneCell'=true→bz k ow [x] v.cells.toList∧∀ u∈v.cells.toList,u.oneCell'=true:=by
  intro x hx h1
  have:v.cells=#[v]:=by cases v <;> simp_all [Value.cells,Value.oneCell']
  rw[this]
  simp only[bz]
  exact⟨⟨v,[],rfl,hx,rfl⟩,by simpa using h1⟩
 cases x with
 | of c =>
  cases c with
  | any=>simp[d5] at hc
  | undef=>simp[d5] at hc
  | tup cs=>simp[d5] at hc
  | agg cs =>
   simp only[d5,ae] at hc
   subst hc
   simp only[bj,Rep] at h
   obtain⟨vs,rfl,h1,hl⟩:=h
   exact⟨by simpa [Value.cells] using bz.of hl,by simpa [Value.cells] using h1⟩
  | ifc t c =>
   simp only[d5,ae] at hc
   subst hc
   exact single _ h (by simp only[bj,Rep] at h;obtain⟨u,rfl,_⟩:=h;rfl)
  | lit u =>
   simp only[d5,ae] at hc
   subst hc
   exact single _ h (by simp only[bj,Rep] at h;rw[h.1];exact h.2)
  | sl cs n =>
   simp only[d5,ae] at hc
   subst hc
   exact single _ h (by simp only[bj,Rep] at h;obtain⟨a,cap,vs,rfl,_⟩:=h;rfl)
  | ref cs =>
   simp only[d5,ae] at hc
   subst hc
   exact single _ h (by simp only[bj,Rep] at h;obtain⟨a,cap,vs,rfl,_⟩:=h;rfl)
  | fn f cs =>
   simp only[d5,ae] at hc
   subst hc
   exact single _ h (by simp only[bj,Rep] at h;obtain⟨vs,rfl,_⟩:=h;rfl)
 | nil =>
  simp only[d5,ae] at hc
  subst hc
  exact single _ h (by simp only[bj] at h;subst h;rfl)
 | own t e z cs n =>
  simp only[d5,ae] at hc
  subst hc
  exact single _ h (by simp only[bj,Rep] at h;obtain⟨_,_,a,cap,vs,rfl,_⟩:=h;rfl)
 | ptr r off =>
  simp only[d5,ae] at hc
  subst hc
  exact single _ h (by simp only[bj] at h;obtain⟨b,_,rfl⟩:=h;rfl)
 | mp r =>
  simp only[d5,ae] at hc
  subst hc
  exact single _ h (by simp only[bj] at h;obtain⟨b,_,rfl⟩:=h;rfl)
 | clo f caps =>
  simp only[d5,ae] at hc
  subst hc
  exact single _ h (by simp only[bj] at h;obtain⟨b,rfl,_⟩:=h;split <;> rfl)
 | agg xs =>
  simp only[d5,ae] at hc
  subst hc
  simp only[bj] at h
  obtain⟨vs,rfl,h1,hl⟩:=h
  exact⟨by simpa [Value.cells] using hl,by simpa [Value.cells] using h1⟩
 | tup xs=>simp[d5] at hc
 | nw t ty z=>simp[d5] at hc
structure Ren (σ:Nat→Option Nat) (ρ:Tk→Option Tk) (k k':Know) (ow ow':Own):Prop where
 m:k.m.le k'.m
 μ:∀ r b r',k.μ r=some b→σ r=some r'→k'.μ r'=some b
 ow:∀ t p t',ow t=some p→ρ t=some t'→ow' t'=some p
theorem bj.tr {σ:Nat→Option Nat} {ρ:Tk→Option Tk} {k k':Know} {ow ow':Own} (h:Ren σ ρ k k' ow ow'):∀ (x:X) (v:Value),bj k ow x v→bj k' ow' (x.tr σ ρ) v :=
 X.rec (motive_1:=fun x=>∀ v,bj k ow x v→bj k' ow' (x.tr σ ρ) v) (motive_2:=fun xs=>∀ vs,bz k ow xs vs→bz k' ow' (X.trs σ ρ xs) vs)
  (fun c v hh=>by simp only[bj,X.tr] at hh ⊢;exact Rep.mono h.m _ _ hh)
  (fun v hh=>by simpa only [bj,X.tr] using hh)
  (fun t e z cs n v hh=>by
   simp only[bj,X.tr] at hh ⊢
   split
   .rename_i t' ht
    simp only[bj]
    exact⟨h.ow _ _ _ hh.1 ht,hh.2.1,Rep.mono h.m _ _ hh.2.2⟩
   .simp only[bj];exact Rep.mono h.m _ _ hh.2.2)
  (fun r off v hh=>by
   simp only[bj,X.tr] at hh ⊢
   obtain⟨b,hb,hv⟩:=hh
   split
   .rename_i r' hr;simp only[bj];exact⟨b,h.μ _ _ _ hb hr,hv⟩
   .simp[bj,Rep])
  (fun r v hh=>by
   simp only[bj,X.tr] at hh ⊢
   obtain⟨b,hb,hv⟩:=hh
   split
   .rename_i r' hr;simp only[bj];exact⟨b,h.μ _ _ _ hb hr,hv⟩
   .simp[bj,Rep])
  (fun f xs ih v hh=>by simp only[bj,X.tr] at hh ⊢;obtain⟨vs,hv,hl⟩:=hh;exact⟨vs,hv,ih _ hl⟩)
  (fun xs ih v hh=>by simp only[bj,X.tr] at hh ⊢;obtain⟨vs,hv,h1,hl⟩:=hh;exact⟨vs,hv,h1,ih _ hl⟩)
  (fun xs ih v hh=>by simp only[bj,X.tr] at hh ⊢;obtain⟨vs,hv,hl⟩:=hh;exact⟨vs,hv,ih _ hl⟩)
  (fun o ty z v hh=>by
   cases o with
   | none=>simp[X.tr,bj]
   | some t =>
    simp only[bj] at hh
    obtain⟨b,hv,hl⟩:=hh
    show bj k' ow' (.nw (ρ t) ty z) v
    cases ht:ρ t with
    | none=>simp[bj]
    | some t'=>simp only[bj];exact⟨b,hv,h.ow _ _ _ hl ht⟩)
  (fun vs hh=>by simpa only [bz,X.trs] using hh)
  (fun x xs ih1 ih2 vs hh=>by simp only[bz,X.trs] at hh ⊢;obtain⟨v,r,hv,h1,h2⟩:=hh;exact⟨v,r,hv,ih1 _ h1,ih2 _ h2⟩)
theorem bz.tr {σ:Nat→Option Nat} {ρ:Tk→Option Tk} {k k':Know} {ow ow':Own} (h:Ren σ ρ k k' ow ow'):∀ (xs:List X) (vs:List Value),bz k ow xs vs→bz k' ow' (X.trs σ ρ xs) vs
 | [],vs,hh=>by simpa only [bz,X.trs] using hh
 | x::xs,vs,hh=>by
  simp only[bz,X.trs] at hh ⊢
  obtain⟨v,r,hv,h1,h2⟩:=hh
  exact⟨v,r,hv,bj.tr h _ _ h1,bz.tr h _ _ h2⟩
theorem adS {α:Type} [DecidableEq α]:∀ {l:List α} {a:α} {i:Nat},pos l a=some i→l[i]?=some a
 | [],a,i,h=>by simp[pos] at h
 | b::l,a,i,h=>by
  simp only[pos] at h
  split at h
  .rename_i e
   simp only[ae] at h
   subst h;subst e
   rfl
  .simp only[aP] at h
   obtain⟨j,hj,rfl⟩:=h
   simpa using adS hj
theorem an6 {α:Type} [DecidableEq α]:∀ {l:List α} {a:α},pos l a=none→a∉l
 | [],a,_=>by simp
 | b::l,a,h=>by
  simp only[pos] at h
  split at h
  .cases h
  .rename_i e
   simp only[Option.map_eq_none_iff] at h
   have:=an6 h
   simp only[cX,acp]
   exact⟨fun e'=>e e'.symm,this⟩
theorem ai6 {α:Type} [DecidableEq α]:∀ (l seen:List α),seen.Nodup→(nub l seen).Nodup
 | [],seen,h=>h
 | a::l,seen,h=>by
  simp only[nub]
  split
  .exact ai6 l seen h
  .rename_i hn
   refine ai6 l _ ?_
   rw[List.nodup_append]
   exact⟨h,by simp,fun x hx y hy=>by simp at hy;subst hy;exact fun e=>hn (e▸hx)⟩
theorem ahi (objs:List Ob):∀ (n:Nat) (todo seen:List Nat),seen.Nodup→(aah objs n todo seen).Nodup
 | 0,_,seen,h=>h
 | _+1,[],seen,h=>h
 | n+1,r::todo,seen,h=>by
  simp only[aah]
  split
  .exact ahi objs n todo seen h
  .rename_i hn
   refine ahi objs n _ _ ?_
   rw[List.nodup_append]
   exact⟨h,by simp,fun x hx y hy=>by simp at hy;subst hy;exact fun e=>hn (e▸hx)⟩
theorem ajr (objs:List Ob):∀ (n:Nat) (todo seen:List Nat),∃ q,aah objs n todo seen=seen++q
 | 0,_,seen=>⟨[],by simp[aah]⟩
 | _+1,[],seen=>⟨[],by simp[aah]⟩
 | n+1,r::todo,seen=>by
  simp only[aah]
  split
  .exact ajr objs n todo seen
  .obtain⟨q,hq⟩:=ajr objs n (((objs[r]?).map Ob.refs).getD []++todo) (seen++[r])
   exact⟨r::q,by rw[hq];simp⟩
structure GP where
 holds:World→Prop
 blk:Nat→Prop
 keep:∀ w w',holds w→(∀ b,blk b→w'.heap[b]?=w.heap[b]?)→holds w'
structure Base where
 G:GP
 m:Mem
 mod:Nat→Prop
structure Keeps (M:Nat→Prop) (w w':World):Prop where
 os:w'.os=w.os
 tape:w'.tape=w.tape
 output:w'.output=w.output
 size:w.heap.size≤w'.heap.size
 block:∀ b,b<w.heap.size→¬ M b→w'.heap[b]?=w.heap[b]?
theorem Keeps.refl (M:Nat→Prop) (w:World):Keeps M w w:=⟨rfl,rfl,rfl,aM _,fun _ _ _=>rfl⟩
theorem Keeps.trans {M:Nat→Prop} {a b c:World} (h:Keeps M a b) (h':Keeps M b c):Keeps M a c :=
 ⟨h'.os.trans h.os,h'.tape.trans h.tape,h'.output.trans h.output,aaS h.size h'.size,fun x hx hm=>(h'.block x (ff hx h.size) hm).trans (h.block x hx hm)⟩
theorem Keeps.below {M:Nat→Prop} {w w':World} (h:Below w.heap.size w w'):Keeps M w w':=⟨h.os,h.tape,h.output,h.size,fun b hb _=>h.block b hb⟩
def aha (M:Nat→Prop) (w0:World) (b:Nat):Prop:=w0.heap.size≤b∨M b
def adB (k:Know) (ow:Own) (w:World) (b:Nat):Ob→Prop
 | .var ty xs=>∃ (vs:List Value),w.heap[b]?=some (.cells vs.toArray ty (0,0))∧(∀ u∈vs,u.oneCell'=true)∧bz k ow xs vs
 | .map es=>∃ (ms:Array MapEntry) (cl:Nat),w.heap[b]?=some (.map ms cl)∧ms.toList.map (·.key)=es.map (·.1)∧cL k.m (es.map (·.2)) (ms.toList.map (·.val))
structure Hp (M0:Base) (k:Know) (ow:Own) (w0 w:World) (objs:List Ob):Prop where
 good:M0.G.holds w0∧∀ b,M0.G.blk b→b<w0.heap.size∧¬ M0.mod b
 below:Keeps M0.mod w0 w
 mem:∀ b o v,k.m b o=some v→w.cell? ⟨b,o,none⟩=some v∧v.oneCell'=true
 obj:∀ r ob,objs[r]?=some ob→∃ b,k.μ r=some b∧aha M0.mod w0 b∧b<w.heap.size∧(∀ o,k.m b o=none)∧adB k ow w b ob
 dom:∀ r b,k.μ r=some b→r<objs.length
 inj:∀ r r' b,k.μ r=some b→k.μ r'=some b→r=r'
 tok:∀ t v e z n,ow t=some (v,e,z,n)→(∃ xs,w.ownsRow 0 e z v n xs)∧∀ g,v.ownBlock=some g→aha M0.mod w0 g∧(∀ o,n*z≤o→k.m g o=none)∧∀ r,k.μ r≠some g
 tokne:∀ t t' v e z n v' e' z' n',ow t=some (v,e,z,n)→ow t'=some (v',e',z',n')→t≠t'→∀ g,v.ownBlock=some g→v'.ownBlock≠some g
 m0:∀ b o v,k.m b o=some v→b<w0.heap.size→¬ M0.mod b→M0.m b o=some v
def Tk.older (clk:Nat) (done:Nat→Prop):Tk→Prop
 | .nm c ix _=>c<clk∨(c=clk∧done ix)
 | .cell ..=>True
structure Sim (M0:Base) (k:Know) (ow:Own) (done:Nat→Prop) (w0 w:World) (N:Nat) (s:S) (tmps:Array Value):Prop extends Hp M0 k ow w0 w s.objs where
 size:tmps.size=N
 fr:∀ j,bj k ow (s.fr j) (tmps.getD j undef)
 fresh:∀ t p,ow t=some p→t.older s.clk done
 cells:∀ r off p,ow (.cell r off)=some p→r<s.objs.length
def ahC {k:Know} {w:World} (h:∀ b o v,k.m b o=some v→w.cell? ⟨b,o,none⟩=some v∧v.oneCell'=true) {b o:Nat} {v:Value} (hm:k.m b o=some v):b<w.heap.size :=
 World.block_lt_of_cell? (a:=⟨b,o,none⟩) w (h _ _ _ hm).1
def acF {w w':World} {B e z:Nat} {v:Value} {n:Nat} {xs:List Value} (h:∀ g,v.ownBlock=some g→g<w.heap.size→w'.heap[g]?=w.heap[g]?) (ho:w.ownsRow B e z v n xs):w'.ownsRow B e z v n xs:=by
 refine⟨ho.1,?_⟩
 rcases ho.2 with h2|⟨g,cap,cur,hv,hg,hh,r⟩
 .exact .inl h2
 .exact .inr ⟨g,cap,cur,hv,hg,by rw[h g (by rw[hv];rfl) (Array.getElem?_eq_some_iff.1 hh).1];exact hh,r⟩
def aCN {w:World} {B e z:Nat} {v:Value} {n:Nat} {xs:List Value} (ho:w.ownsRow B e z v n xs) {g:Nat} (hg:v.ownBlock=some g):g<w.heap.size:=(ho.lt g hg).2
theorem adB.keep {k:Know} {ow:Own} {w w':World} {b:Nat} {ob:Ob} (hb:w'.heap[b]?=w.heap[b]?) (h:adB k ow w b ob):adB k ow w' b ob:=by
 cases ob <;> simpa only [adB,hb] using h
theorem adB.mono {k k':Know} {ow ow':Own} {w:World} {b:Nat} {ob:Ob} (hk:k.le k') (ho:ow.sub ow') (h:adB k ow w b ob):adB k' ow' w b ob:=by
 cases ob with
 | var ty xs =>
  obtain⟨vs,h1,h2,h3⟩:=h
  exact⟨vs,h1,h2,bz.mono hk ho _ _ h3⟩
 | map es =>
  obtain⟨ms,cl,h1,h2,h3⟩:=h
  exact⟨ms,cl,h1,h2,cL.mono hk.1 _ _ h3⟩
theorem adB.tr {σ:Nat→Option Nat} {ρ:Tk→Option Tk} {k k':Know} {ow ow':Own} (hn:Ren σ ρ k k' ow ow') {w:World} {b:Nat} {ob:Ob} (h:adB k ow w b ob):adB k' ow' w b (ob.tr σ ρ):=by
 cases ob with
 | var ty xs =>
  obtain⟨vs,h1,h2,h3⟩:=h
  exact⟨vs,h1,h2,bz.tr hn _ _ h3⟩
 | map es =>
  obtain⟨ms,cl,h1,h2,h3⟩:=h
  exact⟨ms,cl,h1,h2,cL.mono hn.m _ _ h3⟩
theorem adB.drop {k:Know} {ow:Own} {w:World} {b:Nat} {ob:Ob} (t:Tk) (h:adB k ow w b ob):adB k (ow.del t) w b (ob.drop t):=by
 cases ob with
 | var ty xs =>
  obtain⟨vs,h1,h2,h3⟩:=h
  exact⟨vs,h1,h2,bz.drop t _ _ h3⟩
 | map es=>exact h
section
variable {M0:Base} {k:Know} {ow:Own} {done:Nat→Prop} {w0 w w':World} {N:Nat} {s:S} {tmps:Array Value} {objs:List Ob}
theorem Hp.lt (h:Hp M0 k ow w0 w objs) {r b:Nat} (hr:k.μ r=some b):aha M0.mod w0 b∧b<w.heap.size∧∀ o,k.m b o=none:=by
 obtain⟨b',h2,h3,h4,h5,_⟩:=h.obj r _ (List.getElem?_eq_getElem (h.dom r b hr))
 obtain rfl:=bn (h2.symm.trans hr)
 exact⟨h3,h4,h5⟩
theorem Hp.tlt (h:Hp M0 k ow w0 w objs) {t:Tk} {v:Value} {e z n:Nat} (ht:ow t=some (v,e,z,n)) {g:Nat} (hg:v.ownBlock=some g):aha M0.mod w0 g∧g<w.heap.size:=by
 obtain⟨⟨xs,h1⟩,h2⟩:=h.tok t v e z n ht
 exact⟨(h2 g hg).1,aCN h1 hg⟩
theorem Hp.table (h:Hp M0 k ow w0 w objs):M0.G.holds w:=M0.G.keep w0 w h.good.1 fun b hb=>h.below.block b (h.good.2 b hb).1 (h.good.2 b hb).2
theorem Hp.grow (h:Hp M0 k ow w0 w objs) (hb:Below w.heap.size w w'):Hp M0 k ow w0 w' objs where
 good:=h.good
 below:=h.below.trans (.below hb)
 mem:=fun b o v hm=>by
  obtain⟨h1,h2⟩:=h.mem b o v hm
  exact⟨(hb.cell (p:=⟨b,o,none⟩) (ahC h.mem hm)).trans h1,h2⟩
 obj:=fun r ob hr=>by
  obtain⟨b,h1,h2,h3,h4,h5⟩:=h.obj r ob hr
  exact⟨b,h1,h2,ff h3 hb.size,h4,h5.keep (hb.block b h3)⟩
 dom:=h.dom
 inj:=h.inj
 tok:=fun t v e z n ht=>by
  obtain⟨⟨xs,h1⟩,h2⟩:=h.tok t v e z n ht
  exact⟨⟨xs,acF (fun g _ hg=>hb.block g hg) h1⟩,h2⟩
 tokne:=h.tokne
 m0:=h.m0
theorem Sim.grow (h:Sim M0 k ow done w0 w N s tmps) (hb:Below w.heap.size w w'):Sim M0 k ow done w0 w' N s tmps :=
 {h.toHp.grow hb with size:=h.size,fr:=h.fr,fresh:=h.fresh,cells:=h.cells}
theorem Sim.put (h:Sim M0 k ow done w0 w N s tmps) (d:Option Nat) (hd:∀ j,d=some j→j<N) {x:X} {v:Value} (hx:bj k ow x v) :
  Sim M0 k ow done w0 w N (s.put d x) (Act.put ⟨tmps,[]⟩ d v).tmps:=by
 cases d with
 | none=>exact h
 | some d =>
  have hlt:=hd d rfl
  refine {h.toHp with size:=by simp[Act.put,h.size],fr:=fun j=>?_,fresh:=h.fresh,cells:=h.cells}
  simp only[S.put,upd,Act.put]
  by_cases hj:j=d
  .subst hj
   simp only[aA]
   have:(tmps.setIfInBounds j v).getD j undef=v:=by simp[h.size,hlt]
   rw[this]
   exact hx
  .rw[aj hj]
   have:(tmps.setIfInBounds d v).getD j undef=tmps.getD j undef:=by
    simp[Array.getElem?_setIfInBounds_ne (Ne.symm hj)]
   rw[this]
   exact h.fr j
theorem Sim.del (h:Sim M0 k ow done w0 w N s tmps) (t:Tk):Sim M0 k (ow.del t) done w0 w N (s.drop (some t)) tmps where
 good:=h.good
 size:=h.size
 below:=h.below
 fr:=fun j=>bj.drop t _ _ (h.fr j)
 mem:=h.mem
 obj:=fun r ob hr=>by
  simp only[S.drop,List.getElem?_map,aP] at hr
  obtain⟨ob',h1,rfl⟩:=hr
  obtain⟨b,h2,h3,h4,h5,h6⟩:=h.obj r ob' h1
  exact⟨b,h2,h3,h4,h5,h6.drop t⟩
 dom:=fun r b hr=>by simpa [S.drop] using h.dom r b hr
 inj:=h.inj
 tok:=fun t' v e z n ht=>by
  simp only[Own.del] at ht
  split at ht
  .cases ht
  .exact h.tok t' v e z n ht
 tokne:=fun t t' v e z n v' e' z' n' ht ht'=>by
  simp only[Own.del] at ht ht'
  split at ht
  .cases ht
  .split at ht'
   .cases ht'
   .exact h.tokne t t' v e z n v' e' z' n' ht ht'
 fresh:=fun t' p ht=>by
  simp only[Own.del] at ht
  split at ht
  .cases ht
  .exact h.fresh t' p ht
 cells:=fun r off p ht=>by
  simp only[Own.del] at ht
  split at ht
  .cases ht
  .simpa [S.drop] using h.cells r off p ht
 m0:=h.m0
def Own.add (ow:Own) (t:Tk) (p:Value×Nat×Nat×Nat):Own:=fun t'=>if t'=t then some p else ow t'
theorem Own.sub_add {ow:Own} {t:Tk} {p:Value×Nat×Nat×Nat} (h:ow t=none):ow.sub (ow.add t p):=fun t' q hq=>by
 simp only[Own.add]
 split
 .rename_i e;subst e;rw[h] at hq;cases hq
 .exact hq
theorem Sim.add (h:Sim M0 k ow done w0 w N s tmps) {c ix i:Nat} {v:Value} {e z n:Nat} {xs:List Value} (hn:ow (.nm c ix i)=none)
  (hrow:w.ownsRow 0 e z v n xs) (hm:∀ g,v.ownBlock=some g→aha M0.mod w0 g∧(∀ o,n*z≤o→k.m g o=none)∧∀ r,k.μ r≠some g)
  (hne:∀ t' v' e' z' n',ow t'=some (v',e',z',n')→∀ g,v.ownBlock=some g→v'.ownBlock≠some g)
  (hf:c<s.clk∨(c=s.clk∧done ix)):Sim M0 k (ow.add (.nm c ix i) (v,e,z,n)) done w0 w N s tmps where
 good:=h.good
 size:=h.size
 below:=h.below
 fr:=fun j=>bj.mono (Know.le_refl k) (Own.sub_add hn) _ _ (h.fr j)
 mem:=h.mem
 obj:=fun r ob hr=>by
  obtain⟨b,h2,h3,h4,h5,h6⟩:=h.obj r ob hr
  exact⟨b,h2,h3,h4,h5,h6.mono (Know.le_refl k) (Own.sub_add hn)⟩
 dom:=h.dom
 inj:=h.inj
 tok:=fun t' v' e' z' n' ht=>by
  simp only[Own.add] at ht
  split at ht
  .simp only[dR] at ht
   obtain⟨rfl,rfl,rfl,rfl⟩:=ht
   exact⟨⟨xs,hrow⟩,hm⟩
  .exact h.tok t' v' e' z' n' ht
 tokne:=fun t1 t2 v1 e1 z1 n1 v2 e2 z2 n2 h1 h2 hne' g hg hg'=>by
  simp only[Own.add] at h1 h2
  split at h1
  .rename_i e1'
   simp only[dR] at h1
   obtain⟨rfl,rfl,rfl,rfl⟩:=h1
   split at h2
   .rename_i e2';exact hne' (e1'.trans e2'.symm)
   .exact hne _ _ _ _ _ h2 g hg hg'
  .split at h2
   .simp only[dR] at h2
    obtain⟨rfl,rfl,rfl,rfl⟩:=h2
    exact hne _ _ _ _ _ h1 g hg' hg
   .exact h.tokne t1 t2 _ _ _ _ _ _ _ _ h1 h2 hne' g hg hg'
 fresh:=fun t' p ht=>by
  simp only[Own.add] at ht
  split at ht
  .rename_i e1;subst e1;exact hf
  .exact h.fresh t' p ht
 cells:=fun r off p ht=>by
  simp only[Own.add] at ht
  split at ht
  .rename_i e1;cases e1
  .exact h.cells r off p ht
 m0:=h.m0
theorem Sim.more (h:Sim M0 k ow done w0 w N s tmps) {done':Nat→Prop} (hd:∀ i,done i→done' i):Sim M0 k ow done' w0 w N s tmps :=
 {h.toHp with
  size:=h.size
  fr:=h.fr
  cells:=h.cells
  fresh:=fun t p ht=>by
   have:=h.fresh t p ht
   cases t with
   | nm c ix i=>exact this.imp id (fun⟨a,b⟩=>⟨a,hd _ b⟩)
   | cell r off=>trivial}
theorem Sim.tick (h:Sim M0 k ow done w0 w N s tmps):Sim M0 k ow (fun _=>False) w0 w N {s with clk:=s.clk+1} tmps :=
 {h.toHp with
  size:=h.size
  fr:=h.fr
  cells:=h.cells
  fresh:=fun t p ht=>by
   have:=h.fresh t p ht
   cases t with
   | nm c ix i =>
    refine .inl ?_
    rcases this with h|⟨h,_⟩ <;> simp only[] <;> omega
   | cell r off=>trivial}
theorem arH (k:Know) (ow:Own) (v:Value):bj k ow (abT v) v:=by
 unfold abT
 split <;> simp[bj,Rep,cL,Value.oneCell']
theorem Sim.ev (h:Sim M0 k ow done w0 w N s tmps) (x:Operand):bj k ow (s.ev x) ((⟨tmps,[]⟩ : Act).eval x):=by
 cases x with
 | tmp t=>exact h.fr t
 | const v=>exact arH k ow v
 | func f=>simp[S.ev,Act.eval,bj,Rep,cL]
 | global g=>simp[S.ev,bj,Rep]
def Own.re (ρ:Tk→Option Tk) (ow ow':Own):Prop :=
 (∀ t p t',ow t=some p→ρ t=some t'→ow' t'=some p)∧(∀ t' p,ow' t'=some p→∃ t,ow t=some p∧ρ t=some t')
theorem Sim.tr (h:Sim M0 k ow done w0 w N s tmps) {ρ:Tk→Option Tk} {ow':Own} (hr:ow.re ρ ow') (hf:∀ t p,ow' t=some p→t.older s.clk done) (hc:∀ r off p,ow' (.cell r off)=some p→r<s.objs.length) :
  Sim M0 k ow' done w0 w N (s.tr ρ) tmps :=
 have hn:Ren some ρ k k ow ow':=⟨fun _ _ _ h=>h,fun r b r' hr he=>by cases he;exact hr,hr.1⟩
 {good:=h.good
  size:=h.size
  below:=h.below
  fr:=fun j=>bj.tr hn _ _ (h.fr j)
  mem:=h.mem
  obj:=fun r ob hr=>by
   simp only[S.tr,List.getElem?_map,aP] at hr
   obtain⟨ob',h1,rfl⟩:=hr
   obtain⟨b,h2,h3,h4,h5,h6⟩:=h.obj r ob' h1
   exact⟨b,h2,h3,h4,h5,h6.tr hn⟩
  dom:=fun r b hr=>by simpa [S.tr] using h.dom r b hr
  inj:=h.inj
  tok:=fun t' v e z n ht=>by
   obtain⟨t,g1,_⟩:=hr.2 _ _ ht
   exact h.tok t v e z n g1
  tokne:=fun t t' v e z n v' e' z' n' ht ht' hne=>by
   obtain⟨a,g1,g2⟩:=hr.2 _ _ ht
   obtain⟨b,g3,g4⟩:=hr.2 _ _ ht'
   exact h.tokne a b v e z n v' e' z' n' g1 g3 (fun e=>hne (by subst e;rw[g2] at g4;exact bn g4))
  fresh:=hf
  cells:=fun r off p ht=>by simpa [S.tr] using hc r off p ht
  m0:=h.m0}
end
end Go.Pe

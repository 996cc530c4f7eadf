/- A part. Conditions: none. -/
import Derived.Shelf.Small.Strs
import Derived.Shelf.Strings.Search3
import Derived.Shelf.LaysM
import Derived.Ground.GgwProg
import Derived.Shelf.GgClosure.StringsIndexFuncTop
import Derived.Shelf.Strings.Prefix
import Derived.Shelf.Strings.FuncGrows
import Derived.Test.YtghkmcffifpkeaaGreatProg
import Derived.WalkKit
import Derived.Below
import Derived.Still
import Derived.Maps.AppendAt
import Derived.Laws.Rows
import Derived.Laws.StructEq
import Derived.Laws.BytesArg
import Derived.Lib.AppendStr
import Derived.MapKept
set_option linter.all false
set_option maxRecDepth 100000
set_option maxHeartbeats 64000000
theorem Go.gj{a b c:Prop}(xa:a)(xb:b)(xc:c):a/\b/\c:=⟨xa,xb,xc⟩
theorem Go.gm{a b c d:Prop}(xa:a)(xb:b)(xc:c)(xd:d):a/\b/\c/\d:=⟨xa,xb,xc,xd⟩
theorem Go.gp{a b c d e:Prop}(xa:a)(xb:b)(xc:c)(xd:d)(xe:e):a/\b/\c/\d/\e:=⟨xa,xb,xc,xd,xe⟩
theorem Go.gq{a b c d e f:Prop}(xa:a)(xb:b)(xc:c)(xd:d)(xe:e)(xf:f):a/\b/\c/\d/\e/\f:=⟨xa,xb,xc,xd,xe,xf⟩
theorem Go.gu{a b c d e f g:Prop}(xa:a)(xb:b)(xc:c)(xd:d)(xe:e)(xf:f)(xg:g):a/\b/\c/\d/\e/\f/\g:=⟨xa,xb,xc,xd,xe,xf,xg⟩
theorem Go.gv{a b c d e f g h:Prop}(xa:a)(xb:b)(xc:c)(xd:d)(xe:e)(xf:f)(xg:g)(xh:h):a/\b/\c/\d/\e/\f/\g/\h:=⟨xa,xb,xc,xd,xe,xf,xg,xh⟩
theorem Go.gz{a b c d e f g h i:Prop}(xa:a)(xb:b)(xc:c)(xd:d)(xe:e)(xf:f)(xg:g)(xh:h)(xi:i):a/\b/\c/\d/\e/\f/\g/\h/\i:=⟨xa,xb,xc,xd,xe,xf,xg,xh,xi⟩
theorem Go.aC{p:Prop}(h:p:=by omega):p:=h
theorem Go.aI{p:Prop}(h:p:=by decide):p:=h
theorem Go.aS{p:Prop}(h:p:=by kernel_rfl):p:=h
theorem Go.aT{p:Prop}(h:p:=by simp):p:=h
theorem Go.ai{a b:Prop}(x:a)(y:b):a/\b:=⟨x,y⟩
namespace Go
def abu:=@Array.any_eq_true'
def aaI:=@Array.empty_append
def aga:=@Array.ext'
def dS:=@Array.getD_eq_getD_getElem?
def aab:=@Array.getElem?_modify
def aaa:=@Array.getElem?_setIfInBounds_ne
def adc:=@Array.getElem?_toList
def ep:=@Array.length_toList
def eC:=@Array.setIfInBounds_comm
def acq:=@Array.size_setIfInBounds
def cz:=@Array.toArray_toList
def aat:=@Array.toList_append
def adb:=@Array.toList_map
def afH:=@Bool.and_assoc
def ada:=@Bool.and_eq_false_iff
def aj:=@Bool.and_eq_true
def cj:=@Bool.and_false
def agn:=@Bool.and_self
def aag:=@Bool.and_true
def dz:=@Bool.eq_false_or_eq_true
def eY:=@Bool.eq_iff_iff
def cY:=@Bool.false_and
def ah:=@Bool.false_eq_true
def eG:=@Bool.false_or
def cV:=@Bool.not_eq_true'
def dH:=@Bool.not_false
def cX:=@Bool.not_true
def bk:=@Bool.or_eq_true
def aD:=@Bool.or_false
def ag0:=@Bool.or_self
def bh:=@Bool.or_true
def cO:=@Bool.true_and
def acB:=@Bool.true_eq_false
def eA:=@Bool.true_or
def cd:=@Classical.propComplete
def bf:=@Iff.rfl
def abn:=@Int.eq_ofNat_of_zero_le
def ahI:=@Int.le_refl
def acA:=@Int.natCast_nonneg
def aaZ:=@Int.toNat_natCast
def agm:=@List.all_cons
def agZ:=@List.all_nil
def ajj:=@List.any_cons
def fH:=@List.append_assoc
def bn:=@List.append_eq
def cZ:=@List.append_nil
def fE:=@List.cons.injEq
def cQ:=@List.cons_append
def aeI:=@List.cons_ne_nil
def ad3:=@List.contains_cons
def aap:=@List.drop_append_of_le_length
def afG:=@List.drop_drop
def co:=@List.drop_eq_getElem_cons
def aby:=@List.drop_eq_nil_of_le
def df:=@List.drop_length
def dv:=@List.drop_of_length_le
def agh:=@List.drop_succ_cons
def adO:=@List.drop_take
def abG:=@List.drop_zero
def bP:=@List.eq_nil_of_length_eq_zero
def abF:=@List.ext_getElem?
def ab7:=@List.extract_eq_take_drop
def ahi:=@List.flatten_cons
def adw:=@List.foldl_cons
def aW:=@List.getD_eq_getElem?_getD
def aZ:=@List.getElem?_append_left
def bJ:=@List.getElem?_append_right
def eL:=@List.getElem?_cons_succ
def dg:=@List.getElem?_cons_zero
def dW:=@List.getElem?_drop
def aL:=@List.getElem?_eq_getElem
def aX:=@List.getElem?_eq_none
def bp:=@List.getElem?_map
def aek:=@List.getElem?_nil
def dZ:=@List.getElem?_set_ne
def cW:=@List.getElem?_set_self
def ac8:=@List.getElem?_toArray
def ac9:=@List.getElem_map
def dK:=@List.getElem_mem
def bg:=@List.length_append
def aN:=@List.length_cons
def cP:=@List.length_drop
def cN:=@List.length_map
def aR:=@List.length_nil
def dR:=@List.length_singleton
def ac7:=@List.length_take
def afF:=@List.mapM_cons
def bX:=@List.map_append
def ff:=@List.map_congr_left
def bc:=@List.map_cons
def ab2:=@List.map_drop
def agY:=@List.map_map
def bm:=@List.map_nil
def aeb:=@List.map_take
def br:=@List.mem_append
def adt:=@List.mem_append_left
def bj:=@List.mem_cons
def dY:=@List.mem_cons_of_mem
def abt:=@List.mem_cons_self
def bO:=@List.mem_of_getElem?
def dX:=@List.mem_of_mem_drop
def abX:=@List.mem_of_mem_take
def cC:=@List.mem_singleton
def ch:=@List.nil_append
def afb:=@List.nodup_cons
def abE:=@List.nodup_nil
def bH:=@List.not_mem_nil
def agu:=@List.set_cons_succ
def dD:=@List.size_toArray
def aaQ:=@List.sum_append
def dF:=@List.sum_cons
def bR:=@List.sum_nil
def cE:=@List.takeWhile_cons
def ac6:=@List.take_append_drop
def acL:=@List.take_left
def aaB:=@List.take_of_length_le
def adC:=@List.take_succ_cons
def abd:=@List.toList_toArray
def bA:=@Nat.add_assoc
def ey:=@Nat.add_comm
def adN:=@Nat.add_mul
def abm:=@Nat.add_sub_cancel_left
def abC:=@Nat.add_zero
def aaH:=@Nat.eq_zero_or_pos
def abs:=@Nat.exists_eq_succ_of_ne_zero
def aeH:=@Nat.le_add_right
def aaf:=@Nat.le_max_left
def fU:=@Nat.le_max_right
def aax:=@Nat.le_of_lt
def ae:=@Nat.le_refl
def fx:=@Nat.le_trans
def dE:=@Nat.lt_irrefl
def cq:=@Nat.lt_of_lt_of_le
def aA:=@Nat.lt_or_ge
def aO:=@Nat.lt_succ_self
def acP:=@Nat.lt_trichotomy
def adM:=@Nat.mul_one
def ahH:=@Nat.mul_pos
def abW:=@Nat.one_mul
def acp:=@Nat.sub_self
def aeG:=@Nat.sub_zero
def akf:=@Nat.succ_mul
def bK:=@Nat.zero_add
def aU:=@Nat.zero_le
def abB:=@Nat.zero_mul
def bo:=@Ne.symm
def bI:=@Option.bind_eq_some_iff
def db:=@Option.bind_some
def aa0:=@Option.isNone_iff_eq_none
def aco:=@Option.isSome_iff_exists
def ap:=@Option.map_eq_some_iff
def adL:=@Option.map_map
def ahU:=@Option.map_none
def aJ:=@Option.map_some
def ay:=@Option.some.inj
def ab:=@Option.some.injEq
def ake:=@Prod.ext
def aY:=@Prod.mk.injEq
def aja:=@and_assoc
def cI:=@and_false
def bM:=@and_self
def aak:=@and_true
def dm:=@beq_iff_eq
def ado:=@bne_iff_ne
def bd:=@decide_eq_false
def abl:=@decide_eq_false_iff_not
def dM:=@decide_eq_true
def aV:=@decide_eq_true_eq
def fw:=@decide_false
def fS:=@decide_true
def aix:=@dif_pos
def aF:=@eq_false
def aa:=@eq_true
def fv:=@false_and
def ahG:=@false_or
def av:=@if_false
def ar:=@if_neg
def au:=@if_pos
def am:=@if_true
def aeV:=@iff_false
def fR:=@ne_eq
def aaY:=@not_false_eq_true
def af9:=@not_or
def aaX:=@not_true_eq_false
def abD:=@of_decide_eq_true
def dJ:=@or_false
def acz:=@or_self
def cG:=@or_true
def cM:=@true_and
def aey:=gj @bg.{0} @aN.{0} @aR.{0}
def av7:=ai @cQ.{0} @ch.{0}
def abf:=ai @aN.{0} @aR.{0}
def bD:=ai @ab.{0} @aY.{0,0}
end Go
namespace Go.Proofs
open Shelf
def Tryz.lays137_ren:Go.Shelf.Ren:=⟨fun|137=>239|217=>281|266=>301|n=>n,fun|9=>9|5=>5|3=>3|n=>n,fun|n=>n⟩
theorem Tryz.lays137:Go.Proofs.Lays.n137 Tryz.prog Tryz.lays137_ren:={
 mixed:=by kernel_rfl
 f137:=Tryz.func239.trans (congrArg some aS)
 f217:=Tryz.func281.trans (congrArg some aS)
 f266:=Tryz.func301.trans (congrArg some aS)
 t3:=Tryz.underlying3
 a3:=Tryz.isAgg3
 z3:=Tryz.sizeOf3
 v3:=Tryz.zeroValue3
 t5:=Tryz.underlying5
 a5:=Tryz.isAgg5
 z5:=Tryz.sizeOf5
 v5:=Tryz.zeroValue5
 t9:=Tryz.underlying9
 a9:=Tryz.isAgg9
 z9:=Tryz.sizeOf9
 v9:=Tryz.zeroValue9}
open RowKit in
theorem Tryz.strings_IndexByte(s:ByteArray)(c:Int)(w:World) :
  Calls Tryz.prog 239 #[.string s,.int .u8 c] w λe w'=>e=.returned (.int .i64 (Lib.indexByte s.data.toList c.toNat.toUInt8))/\w'=w:=Any.strings_IndexByte Tryz.lays137 s c w
def Tryz.lays144_ren:Go.Shelf.Ren:=⟨fun|144=>283|143=>303|219=>315|217=>281|225=>322|224=>323|267=>324|266=>301|314=>329|n=>n,fun|9=>9|4=>4|3=>3|5=>5|46=>307|146=>310|51=>309|n=>n,fun|1=>0|n=>n⟩
theorem Tryz.lays144:Go.Proofs.Lays.n144 Tryz.prog Tryz.lays144_ren:={
 mixed:=by kernel_rfl
 f143:=Tryz.func303.trans (congrArg some aS)
 f144:=Tryz.func283.trans (congrArg some aS)
 f217:=Tryz.func281.trans (congrArg some aS)
 f219:=Tryz.func315.trans (congrArg some aS)
 f224:=Tryz.func323.trans (congrArg some aS)
 f225:=Tryz.func322.trans (congrArg some aS)
 f266:=Tryz.func301.trans (congrArg some aS)
 f267:=Tryz.func324.trans (congrArg some aS)
 f314:=Tryz.func329.trans (congrArg some aS)
 t3:=Tryz.underlying3
 a3:=Tryz.isAgg3
 z3:=Tryz.sizeOf3
 v3:=Tryz.zeroValue3
 t4:=Tryz.underlying4
 a4:=Tryz.isAgg4
 z4:=Tryz.sizeOf4
 v4:=Tryz.zeroValue4
 t5:=Tryz.underlying5
 a5:=Tryz.isAgg5
 z5:=Tryz.sizeOf5
 v5:=Tryz.zeroValue5
 t9:=Tryz.underlying9
 a9:=Tryz.isAgg9
 z9:=Tryz.sizeOf9
 v9:=Tryz.zeroValue9
 t46:=Tryz.underlying307
 a46:=Tryz.isAgg307
 z46:=Tryz.sizeOf307
 v46:=Tryz.zeroValue307
 t51:=Tryz.underlying309
 a51:=Tryz.isAgg309
 z51:=Tryz.sizeOf309
 v51:=Tryz.zeroValue309
 t146:=Tryz.underlying310
 a146:=Tryz.isAgg310
 z146:=Tryz.sizeOf310
 v146:=Tryz.zeroValue310
 g1:=by kernel_rfl}
open RowKit Lib in
theorem Tryz.strings_Contains(s sub:ByteArray)(m:Int)(w:World)(hs:s.size<4294967281)(hm:w.cell? ⟨0,0,none⟩=some (.int .i64 m)) :
  Calls Tryz.prog 283 #[.string s,.string sub] w λe w'=>e=.returned (.bool (Lib.contains s.data.toList sub.data.toList))/\w'=w:=Any.strings_Contains Tryz.lays144 s sub m w hs hm
def Tryz.laysGw15_ren:Go.Shelf.Ren:=⟨fun|15=>201|20=>263|n=>n,fun|9=>9|23=>219|3=>3|4=>4|0=>0|21=>21|n=>n,fun|n=>n⟩
theorem Tryz.laysGw15:Go.Proofs.LaysGw.n15 Tryz.prog Tryz.laysGw15_ren:={
 mixed:=by kernel_rfl
 f15:=Tryz.func201.trans (congrArg some aS)
 f20:=Tryz.func263.trans (congrArg some aS)
 t0:=Tryz.underlying0
 a0:=Tryz.isAgg0
 z0:=Tryz.sizeOf0
 v0:=Tryz.zeroValue0
 i0:=by kernel_rfl
 t3:=Tryz.underlying3
 a3:=Tryz.isAgg3
 z3:=Tryz.sizeOf3
 v3:=Tryz.zeroValue3
 i3:=by kernel_rfl
 t4:=Tryz.underlying4
 a4:=Tryz.isAgg4
 z4:=Tryz.sizeOf4
 v4:=Tryz.zeroValue4
 i4:=by kernel_rfl
 t9:=Tryz.underlying9
 a9:=Tryz.isAgg9
 z9:=Tryz.sizeOf9
 v9:=Tryz.zeroValue9
 i9:=by kernel_rfl
 t21:=Tryz.underlying21
 a21:=Tryz.isAgg21
 z21:=Tryz.sizeOf21
 v21:=Tryz.zeroValue21
 i21:=by kernel_rfl
 t23:=Tryz.underlying219
 a23:=Tryz.isAgg219
 z23:=Tryz.sizeOf219
 v23:=Tryz.zeroValue219
 i23:=by kernel_rfl}
open RowKit Lib in
def Tryz.lays99_ren:Go.Shelf.Ren:=⟨fun|99=>238|206=>280|n=>n,fun|9=>9|4=>4|3=>3|n=>n,fun|n=>n⟩
theorem Tryz.lays99:Go.Proofs.Lays.n99 Tryz.prog Tryz.lays99_ren:={
 mixed:=by kernel_rfl
 f99:=Tryz.func238.trans (congrArg some aS)
 f206:=Tryz.func280.trans (congrArg some aS)
 t3:=Tryz.underlying3
 a3:=Tryz.isAgg3
 z3:=Tryz.sizeOf3
 v3:=Tryz.zeroValue3
 t4:=Tryz.underlying4
 a4:=Tryz.isAgg4
 z4:=Tryz.sizeOf4
 v4:=Tryz.zeroValue4
 t9:=Tryz.underlying9
 a9:=Tryz.isAgg9
 z9:=Tryz.sizeOf9
 v9:=Tryz.zeroValue9}
open RowKit Lib in
theorem Tryz.strings_HasPrefix(s p:ByteArray)(w:World) :
  Calls Tryz.prog 238 #[.string s,.string p] w λe w'=>e=.returned (.bool (Lib.hasPrefix s.data.toList p.data.toList))/\w'=w:=Any.strings_HasPrefix Tryz.lays99 s p w
open RowKit Lib in
theorem Tryz.strings_IndexFunc_grows(g:Nat)(lb:Array Value)(eg:∀ args w,(callFunc g args).run Tryz.prog w=.ok (.enter g args) w)(p:Nat->Bool)(s:ByteArray)(w:World)(hp:PredGrows Tryz.prog g lb p w) :
  Calls Tryz.prog 201 #[.string s,.func (.func g) #[] lb] w λe w'=>e=.returned (.int .i64 (Lib.idxFunc p true s))/\Below w.heap.size w w':=Any.strings_IndexFunc_grows Tryz.laysGw15 g lb eg p s w hp
end Go.Proofs
namespace Go.Pe
inductive C where
 | any
 | undef
 | lit (v:Value)
 | sl (cs:List C) (n:Nat)
 | ref (cs:List C)
 | fn (f:Nat) (caps:List C)
 | agg (cs:List C)
 | tup (cs:List C)
 | ifc (t:Nat) (c:C)
abbrev ci(n:Int):C:=.lit (.int .i64 n)
abbrev cb(b:Bool):C:=.lit (.bool b)
abbrev aG(s:ByteArray):C:=.lit (.string s)
def C.cells:C->List C
 | .agg cs=>cs
 | c=>[c]
inductive Tk where
 | nm (clk ix i:Nat)
 | cell (r off:Nat)
 deriving DecidableEq
abbrev abq(r:Nat):Tk:=.cell r 1099511627776
def Tk.isRow:Tk->Bool
 | .cell _ o=>o == 1099511627776
 | .nm ..=>false
inductive X where
 | of (a:C)
 | nil
 | own (t:Tk) (e z:Nat) (cs:List C) (n:Nat)
 | ptr (r off:Nat)
 | mp (r:Nat)
 | clo (f:Nat) (caps:List X)
 | agg (xs:List X)
 | tup (xs:List X)
 | nw (o:Option Tk) (ty z:Nat)
 | top (r e z:Nat)
abbrev aQ(n:Int):X:=.of (ci n)
abbrev aM(b:Bool):X:=.of (cb b)
abbrev agi(s:ByteArray):X:=.of (aG s)
inductive Ob where
 | var (ty:Nat) (xs:List X)
 | map (es:List (Value×C))
 | row (ty:Nat) (cs:List C)
def Ob.live:Ob->Bool
 | .row _ []=>false
 | _=>true
mutual
def X.rd:X->Option C
 | .of c=>some c
 | .nil=>some (.sl [] 0)
 | .own _ _ _ cs n=>some (.sl cs n)
 | .agg xs=>(X.rds xs).map .agg
 | _=>none
def X.rds:List X->Option (List C)
 | []=>some []
 | x::r=>match x.rd,X.rds r with
  | some c,some cs=>some (c::cs)
  | _,_=>none
end
def agd(t:Tk):Option Tk->Option Tk
 | some t'=>if t'=t then none else some t'
 | none=>none
mutual
def X.drop(t:Tk):X->X
 | .own t' e z cs n=>if t'=t then .of (.sl cs n) else .own t' e z cs n
 | .clo f caps=>.clo f (X.drops t caps)
 | .agg xs=>.agg (X.drops t xs)
 | .tup xs=>.tup (X.drops t xs)
 | .nw o ty z=>.nw (agd t o) ty z
 | x=>x
def X.drops(t:Tk):List X->List X
 | []=>[]
 | x::r=>x.drop t::X.drops t r
end
def Ob.drop(t:Tk):Ob->Ob
 | .var ty xs=>.var ty (X.drops t xs)
 | o=>o
mutual
def X.tr(σ:Nat->Option Nat)(ρ:Tk->Option Tk):X->X
 | .of c=>.of c
 | .nil=>.nil
 | .own t e z cs n=>match ρ t with
  | some t'=>.own t' e z cs n
  | none=>.of (.sl cs n)
 | .ptr r off=>match σ r with
  | some r'=>.ptr r' off
  | none=>.of .any
 | .mp r=>match σ r with
  | some r'=>.mp r'
  | none=>.of .any
 | .clo f caps=>.clo f (X.trs σ ρ caps)
 | .agg xs=>.agg (X.trs σ ρ xs)
 | .tup xs=>.tup (X.trs σ ρ xs)
 | .nw o ty z=>.nw (o.bind ρ) ty z
 | .top r e z=>match σ r with
  | some r'=>if ρ (abq r)=some (abq r') then .top r' e z else .of .any
  | none=>.of .any
def X.trs(σ:Nat->Option Nat)(ρ:Tk->Option Tk):List X->List X
 | []=>[]
 | x::r=>x.tr σ ρ::X.trs σ ρ r
end
def Ob.tr(σ:Nat->Option Nat)(ρ:Tk->Option Tk):Ob->Ob
 | .var ty xs=>.var ty (X.trs σ ρ xs)
 | .map es=>.map es
 | .row ty cs=>.row ty cs
mutual
def X.refs:X->List Nat
 | .ptr r _=>[r]
 | .mp r=>[r]
 | .top r _ _=>[r]
 | .clo _ caps=>X.refsL caps
 | .agg xs=>X.refsL xs
 | .tup xs=>X.refsL xs
 | _=>[]
def X.refsL:List X->List Nat
 | []=>[]
 | x::r=>x.refs++X.refsL r
end
mutual
def X.toks:X->List Tk
 | .own t _ _ _ _=>[t]
 | .clo _ caps=>X.toksL caps
 | .agg xs=>X.toksL xs
 | .tup xs=>X.toksL xs
 | .nw o _ _=>o.toList
 | _=>[]
def X.toksL:List X->List Tk
 | []=>[]
 | x::r=>x.toks++X.toksL r
end
def Ob.refs:Ob->List Nat
 | .var _ xs=>X.refsL xs
 | .map _=>[]
 | .row ..=>[]
def pos{α:Type}[DecidableEq α]:List α->α->Option Nat
 | [],_=>none
 | a::l,b=>if a=b then some 0 else (pos l b).map (·+1)
def nub{α:Type}[DecidableEq α]:List α->List α->List α
 | [],seen=>seen
 | a::l,seen=>if a∈seen then nub l seen else nub l (seen++[a])
def dQ(objs:List Ob):Nat->List Nat->List Nat->List Nat
 | 0,_,seen=>seen
 | _+1,[],seen=>seen
 | n+1,r::todo,seen=>if r∈seen then dQ objs n todo seen else dQ objs n (((objs[r]?).map Ob.refs).getD []++todo) (seen++[r])
def fD(refs:List Nat)(ts:List Tk)(t:Tk):Option Tk:=match pos ts t with
 | some i=>some (.nm 0 0 i)
 | none=>match t with
  | .cell r off=>(pos refs r).map λr'=>.cell r' off
  | .nm ..=>none
def cf(refs:List Nat)(ts:List Tk)(t:Tk):Option Tk:=if t∈ts then none else match t with
 | .cell r _=>if r∈refs then none else some t
 | .nm ..=>some t
def ce(refs:List Nat)(L i:Nat):Nat:=match refs[i]? with
 | some r=>r
 | none=>L+(i-refs.length)
def cB(refs:List Nat)(L clk ix:Nat):Tk->Option Tk
 | .nm 0 0 i=>some (.nm clk ix i)
 | .nm ..=>none
 | .cell r off=>some (.cell (ce refs L r) off)
def aeX(ts:List Tk)(objs:List Ob):List Ob:=match ts with
 | []=>objs
 | ts=>objs.map (Ob.tr some λt=>if t∈ts then none else some t)
def aaj(σ:Nat->Option Nat)(ρ:Tk->Option Tk)(objs:List Ob):List Nat->Option (List Ob)
 | []=>some []
 | r::l=>match objs[r]?,aaj σ ρ objs l with
  | some ob,some q=>some (ob.tr σ ρ::q)
  | _,_=>none
def aai(σ:Nat->Option Nat)(ρ:Tk->Option Tk):List Ob->List Nat->List Ob->List Ob
 | objs,r::l,ob::q=>aai σ ρ (objs.set r (ob.tr σ ρ)) l q
 | objs,_,_=>objs
def aoX(t:Option Tk)(x:X):X:=match t with|none=>x|some t=>x.drop t
structure S where
 fr:Nat->X
 objs:List Ob
 clk:Nat
def upd(f:Nat->X)(d:Nat)(x:X):Nat->X:=λj=>if j=d then x else f j
def S.put(s:S)(d:Option Nat)(x:X):S:=match d with
 | none=>s
 | some d=>{s with fr:=upd s.fr d x}
def S.drop(s:S)(t:Option Tk):S:=match t with
 | none=>s
 | some t=>{s with fr:=λj=>(s.fr j).drop t,objs:=s.objs.map (·.drop t)}
def aM0:Value->Option C
 | .int k n=>some (.lit (.int k n))
 | .bool b=>some (.lit (.bool b))
 | .string s=>some (.lit (.string s))
 | .slice none 0 0=>some (.sl [] 0)
 | _=>none
def ayg:List Value->Option (List C)
 | []=>some []
 | v::r=>match aM0 v,ayg r with
  | some c,some cs=>some (c::cs)
  | _,_=>none
def aM2(vs:List Value):C:=match ayg vs with
 | some cs=>.agg cs
 | none=>.any
def aa5:Value->X
 | .slice none 0 0=>.nil
 | .int k n=>.of (.lit (.int k n))
 | .bool b=>.of (.lit (.bool b))
 | .string s=>.of (.lit (.string s))
 | .pointer none=>.of (.lit (.pointer none))
 | .map none=>.of (.lit (.map none))
 | .nilFunc=>.of (.lit .nilFunc)
 | .nilIface=>.of (.lit .nilIface)
 | .agg vs=>.of (aM2 vs.toList)
 | _=>.of .any
def S.ev(s:S):Operand->X
 | .tmp t=>s.fr t
 | .const v=>aa5 v
 | .func f=>.of (.fn f [])
 | .global _=>.of .any
structure TD where
 und:TypeDesc
 size:Nat
 bytes:Nat
 agg:Bool
 zero:List Value
 fields:List (Nat×Nat)
abbrev TT:=Nat->Option TD
def anP:TypeDesc->Bool
 | .struct _=>true
 | .array _ _=>true
 | _=>false
def anO:Value->Bool
 | .agg _=>true
 | _=>false
def fieldsOf(P:Program):TypeDesc->Option (List (Nat×Nat))
 | .struct fs=>fs.toList.mapM λf=>(P.info? f.type).map λi=>(f.offset,i.size)
 | _=>some []
def TT.of(P:Program):TT:=λt=>match P.underlying t,P.info? t with
 | some u,some i=>match i.zero,fieldsOf P u with
  | some z,some fl=>if z.cells.toList.all (·.oneCell')&&z.cells.size == i.size&&anO z == anP u then some ⟨u,i.size,i.bytes,anP u,z.cells.toList,fl⟩ else none
  | _,_=>none
 | _,_=>none
def LIM:Nat:=4294967296
def akw:Nat:=140737488355328
def aer(op:BinOp)(k:IntKind)(a b:Int):Option Value:=match op with
 | .add=>some (.int k (k.wrap (a+b)))
 | .sub=>some (.int k (k.wrap (a-b)))
 | .mul=>some (.int k (k.wrap (a*b)))
 | .quo=>if b=0 then none else some (.int k (k.wrap (a.tdiv b)))
 | .rem=>if b=0 then none else some (.int k (a.tmod b))
 | .eql=>some (.bool (decide (a=b)))
 | .neq=>some (.bool (!decide (a=b)))
 | .lss=>some (.bool (decide (a<b)))
 | .leq=>some (.bool (decide (a<=b)))
 | .gtr=>some (.bool (decide (b<a)))
 | .geq=>some (.bool (decide (b<=a)))
 | .and=>some (.int k (k.wrap (BitVec.ofInt k.bits a &&& BitVec.ofInt k.bits b).toNat))
 | .andNot=>some (.int k (k.wrap (BitVec.ofInt k.bits a &&& ~~~BitVec.ofInt k.bits b).toNat))
 | _=>none
def an5(op:BinOp)(a b:ByteArray):Option Value:=match op with
 | .add=>if a.size+b.size<=akw then some (.string (a++b)) else none
 | .eql=>some (.bool (decide (a=b)))
 | .neq=>some (.bool (!decide (a=b)))
 | _=>none
def ao4(op:BinOp)(a b:Bool):Option Value:=match op with
 | .eql=>some (.bool (a == b))
 | .neq=>some (.bool (!(a == b)))
 | _=>none
def alS:Option TypeDesc->Bool
 | some .bool=>true
 | _=>false
def abI(u:Option TypeDesc)(op:BinOp):Value->Value->Option Value
 | .int k a,.int k' b=>if k=k' then aer op k a b else none
 | .string a,.string b=>an5 op a b
 | .bool a,.bool b=>if alS u then ao4 op a b else none
 | _,_=>none
def aqv(op:UnOp):Value->Option Value
 | .int k n=>match op with
  | .neg=>some (.int k (k.wrap (0-n)))
  | _=>none
 | .bool b=>match op with
  | .not=>some (.bool (!b))
  | _=>none
 | _=>none
def ajC:Value->Value->Option Bool
 | .int k a,.int k' b=>if k=k' then some (decide (a=b)) else none
 | .string a,.string b=>some (decide (a=b))
 | .bool a,.bool b=>some (a == b)
 | _,_=>none
def aas:X->Option Int
 | .of (.lit (.int .i64 n))=>some n
 | _=>none
def adm:X->Option Bool
 | .of (.lit (.bool b))=>some b
 | _=>none
def aaT:X->Option (List C×Nat)
 | .nil=>some ([],0)
 | .own _ _ _ cs n=>some (cs,n)
 | .of (.sl cs n)=>some (cs,n)
 | _=>none
def cn:X->Option (List X)
 | .agg xs=>some xs
 | .of (.agg cs)=>some (cs.map .of)
 | .of .any=>none
 | .of .undef=>none
 | .of (.tup _)=>none
 | .tup _=>none
 | .nw ..=>none
 | x=>some [x]
def ec(x:X):Option (List C):=(cn x).bind X.rds
def aah(place:Nat->Option (Nat×Nat))(cells:List X):List (Nat×List X)->Option (List X)
 | []=>some cells
 | (i,xs)::rest=>match place i with
  | none=>none
  | some (off,size) =>
   if xs.length=size/\off+size<=cells.length then aah place (cells.take off++xs++cells.drop (off+size)) rest
   else none
def fj(d:TD):List X:=d.zero.map aa5
def bi(T:TT)(t:Nat)(cs:List C):Option C:=match T t with
 | none=>none
 | some d=>if d.size<=cs.length then (if d.agg then some (.agg (cs.take d.size)) else match cs with
   | c::_=>some c
   | []=>none) else none
def bx(T:TT)(t:Nat)(xs:List X):Option X:=match T t with
 | none=>none
 | some d=>if d.size<=xs.length then (if d.agg then some (.agg (xs.take d.size)) else match xs with
   | x::_=>some x
   | []=>none) else none
def elemOf(T:TT)(t:Nat):Option (Nat×TD):=match T t with
 | some {und:=.slice e,..}=>(T e).map λd=>(e,d)
 | _=>none
def fQ(f:Operand->X)(ps:List (Nat×Operand)):Option (List (Nat×List X)):=match ps with
 | []=>some []
 | (i,x)::r=>match cn (f x),fQ f r with
  | some l,some q=>some ((i,l)::q)
  | _,_=>none
def abh(f:Operand->X):List Operand->Option (List C)
 | []=>some []
 | x::r=>match (f x).rd,abh f r with
  | some c,some cs=>some (c::cs)
  | _,_=>none
abbrev Out:=Option (X×Option Tk)
def out(x:X):Out:=some (x,none)
def bE(x:Option X):Out:=x.map λx=>(x,none)
def afK:Option TypeDesc->Bool
 | some .string=>true
 | _=>false
def akt(s:ByteArray):List C:=s.data.toList.map λb=>.lit (.int .u8 b.toNat)
def amK:Option TD->Bool
 | some {und:=.int .u8,size:=1,..}=>true
 | _=>false
def aiY(T:TT)(st xt e:Nat)(x:X):Option (List C×Nat) :=
 if st=xt then aaT x else match x with
  | .of (.lit (.string s))=>if afK ((T xt).map (·.und))=true/\amK (T e)=true then some (akt s,s.size) else none
  | _=>none
def dP(T:TT)(t:Tk)(st xt:Nat)(s x:X):Out:=match elemOf T st with
 | some (e,d)=>match aiY T st xt e x with
  | some (ys,m) =>
   if ys.length=m*d.size/\0<d.size then match s with
    | .nil=>if m<=LIM/\d.bytes<=32768 then some (.own t e d.size ys m,none) else none
    | .own t' e' z cs n=>if e'=e/\z=d.size/\n+m<=LIM/\d.bytes<=32768 then some (.own t e d.size (cs++ys) (n+m),some t') else none
    | _=>none
   else none
  | none=>none
 | none=>none
def aeQ(d:Int):Option X->Option Int
 | none=>some d
 | some l=>aas l
def acJ(T:TT)(t:Nat)(x:X)(lo hi:Option X):Out :=
 match x with
 | .of (.lit (.string s)) =>
  if afK ((T t).map (·.und)) then match aeQ 0 lo,aeQ (s.size:Int) hi with
  | some l,some h=>if 0<=l/\l<=h/\h<=(s.size:Int) then out (.of (.lit (.string (s.extract l.toNat h.toNat)))) else none
  | _,_=>none
  else none
 | x=>match elemOf T t,aaT x with
  | some (_,d),some (cs,n) =>
   match aeQ 0 lo,aeQ (n:Int) hi with
   | some l,some h=>if 0<=l/\l<=h/\h<=(n:Int)/\cs.length=n*d.size then out (.of (.sl ((cs.drop (l.toNat*d.size)).take ((h.toNat-l.toNat)*d.size)) (h.toNat-l.toNat))) else none
   | _,_=>none
  | _,_=>none
def abk(T:TT)(objs:List Ob)(t:Nat):X->Out
 | .ptr r off=>match objs[r]? with
  | some (.var _ xs)=>bE (bx T t (xs.drop off))
  | some (.row _ (c::cs))=>bE ((bi T t ((c::cs).drop off)).map .of)
  | _=>none
 | .of (.ref cs)=>bE ((bi T t cs).map .of)
 | _=>none
def aig(T:TT)(t f:Nat):Option (Nat×Nat):=(T t).bind λd=>d.fields[f]?
def fF(T:TT)(t f:Nat)(x:X):Out:=match aig T t f with
 | some (o,z)=>if 0<z then match x with
  | .ptr r off=>out (.ptr r (off+o))
  | .of (.ref cs)=>out (.of (.ref (cs.drop o)))
  | _=>none else none
 | none=>none
def aoT:TypeDesc->Nat->Option Nat
 | .struct fs,i=>(fs[i]?).map (·.type)
 | _,_=>none
def afO(T:TT)(t f:Nat)(x:X):Out:=match T t with
 | some d=>match d.fields[f]?,aoT d.und f with
  | some (o,_),some u=>match x with
   | .agg xs=>bE (bx T u (xs.drop o))
   | .of (.agg cs)=>bE ((bi T u (cs.drop o)).map .of)
   | _=>none
  | _,_=>none
 | none=>none
def ahX(e z:Nat)(i:Int):X->Out
 | .top r e' z'=>if e'=e/\z'=z/\i=0/\0<z then out (.ptr r 0) else none
 | _=>none
def bz(T:TT)(t:Nat)(x i:X):Out:=match aas i with
 | none=>none
 | some i=>match T t with
  | some {und:=.slice e,..}=>match T e,aaT x with
   | some d,some (cs,n)=>if 0<=i/\i<(n:Int)/\cs.length=n*d.size/\0<d.size then out (.of (.ref (cs.drop (i.toNat*d.size)))) else none
   | some d,none=>ahX e d.size i x
   | _,_=>none
  | some {und:=.array n e,..}=>match T e with
   | some d=>if 0<=i/\i<(n:Int) then match x with
    | .ptr r off=>out (.ptr r (off+i.toNat*d.size))
    | .of (.ref cs)=>out (.of (.ref (cs.drop (i.toNat*d.size))))
    | _=>none else none
   | none=>none
  | _=>none
def afL(T:TT)(t:Nat)(x i:X):Out:=match aas i with
 | none=>none
 | some i=>match x with
  | .of (.lit (.string s))=>if h:afK ((T t).map (·.und))=true/\0<=i/\i.toNat<s.size then out (.of (.lit (.int .u8 (s[i.toNat]'h.2.2).toNat))) else none
  | .agg xs=>match T t with
   | some {und:=.array n e,..}=>match T e with
    | some d=>if 0<=i/\i<(n:Int) then bE (bx T e (xs.drop (i.toNat*d.size))) else none
    | none=>none
   | _=>none
  | .of (.agg cs)=>match T t with
   | some {und:=.array n e,..}=>match T e with
    | some d=>if 0<=i/\i<(n:Int) then bE ((bi T e (cs.drop (i.toNat*d.size))).map .of) else none
    | none=>none
   | _=>none
  | _=>none
def ahK:Option TypeDesc->Bool
 | some (.slice _)=>true
 | _=>false
def ajY(b:Bool):X->Out
 | .top ..=>if b=true then out (aQ 1) else none
 | _=>none
def fV(u:Option TypeDesc)(x:X):Out:=match x with
 | .of (.lit (.string s))=>if afK u then out (aQ s.size) else none
 | x=>match aaT x with
  | some (_,n)=>if ahK u then out (aQ n) else none
  | none=>ajY (ahK u) x
def aeZ:List C->Option (List UInt8)
 | []=>some []
 | .lit (.int .u8 n)::r=>(aeZ r).map (UInt8.ofNat n.toNat::·)
 | _=>none
def ajD(T:TT)(src:Option TD)(x:X):Out:=match src,aaT x with
 | some {und:=.slice e,..},some (cs,n)=>if amK (T e)=true/\cs.length=n then bE ((aeZ cs).map λl=>agi ⟨l.toArray⟩) else none
 | _,_=>none
def adv(T:TT)(src dst:Nat)(x:X):Out:=match T src,(T dst).map (·.und),x with
 | some _,some (TypeDesc.int k),.of (.lit (.int _ n))=>out (.of (.lit (.int k (k.wrap n))))
 | some _,some TypeDesc.string,.of (.lit (.string s))=>out (.of (.lit (.string s)))
 | d,some TypeDesc.string,x=>ajD T d x
 | _,_,_=>none
def avW(T:TT)(a e:Nat)(s:ByteArray):Out:=if afK ((T a).map (·.und))&&amK (T e) then out (.of (.sl (akt s) s.size)) else none
def aed(T:TT)(a b:Nat)(x:X):Out:=match (T b).map (·.und),x with
 | some (TypeDesc.slice e),.of (.lit (.string s))=>avW T a e s
 | _,x=>adv T a b x
def aeK(kind:TypeDesc)(k:Value):List (Value×C)->Nat->Option (Option Nat)
 | [],_=>some none
 | e::es,i=>match Instr.sameNow kind k e.1 with
  | some true=>some (some i)
  | some false=>aeK kind k es (i+1)
  | none=>none
def aoO:TypeDesc->Bool
 | .int _=>true
 | .string=>true
 | .bool=>true
 | _=>false
def fu:X->Option Value
 | .of (.lit v)=>some v
 | _=>none
def agE(objs:List Ob):X->Option (List (Value×C))
 | .mp r=>match objs[r]? with
  | some (.map es)=>some es
  | _=>none
 | .of (.lit (.map none))=>some []
 | _=>none
def akB(T:TT)(t:Nat):Option X:=match T t with
 | some d=>bx T t (fj d)
 | none=>none
def agD(T:TT)(t:Nat):Option (TypeDesc×Nat):=match T t with
 | some {und:=.map kt et,..}=>match (T kt).map (·.und) with
  | some kind=>if aoO kind then some (kind,et) else none
  | none=>none
 | _=>none
def alf:Option TypeDesc->Value->Bool
 | some (.int _),.int _ _=>true
 | some .string,.string _=>true
 | some .bool,.bool _=>true
 | _,_=>false
def adU(T:TT):Nat->List Field->List C->List C->Option Bool
 | _,[],[],[]=>some true
 | o,f::fs,.lit u::r,.lit v::q =>
  if f.name != "_"&&f.offset == o&&alf ((T f.type).map (·.und)) u&&alf ((T f.type).map (·.und)) v then match ajC u v with
   | some true=>adU T (o+1) fs r q
   | b=>b
  else none
 | _,_,_,_=>none
def aeO(P:Program)(T:TT)(t:Nat)(cs ds:List C):Option Bool:=match T t with
 | some {und:=.struct fs,..}=>if P.stoodInHeld t=false/\P.eqGuardType P.depth t=false then adU T 0 fs.toList cs ds else none
 | _=>none
def afS(P:Program)(T:TT)(t:Nat)(op:BinOp):Option C->Option C->Out
 | some (.agg cs),some (.agg ds)=>match op with
  | .eql=>bE ((aeO P T t cs ds).map aM)
  | .neq=>bE ((aeO P T t cs ds).map λb=>aM (!b))
  | _=>none
 | _,_=>none
def eT(P:Program)(T:TT)(t:Nat)(u:Option TypeDesc)(op:BinOp)(x y:X):Out:=match fu x,fu y with
 | some a,some b=>bE ((abI u op a b).map λv=>.of (.lit v))
 | _,_=>afS P T t op x.rd y.rd
def aei(T:TT)(objs:List Ob)(t:Nat)(x k:X)(ok:Bool):Out:=match agD T t,fu k,agE objs x with
 | some (kind,et),some kv,some es=>match aeK kind kv es 0 with
  | some (some i)=>bE ((es[i]?).map λe=>if ok then .tup [.of e.2,aM true] else .of e.2)
  | some none=>bE ((akB T et).map λz=>if ok then .tup [z,aM false] else z)
  | none=>none
 | _,_,_=>none
def amv(kind:TypeDesc)(k:Value)(c:C)(es:List (Value×C)):Option (List (Value×C)):=match aeK kind k es 0 with
 | some (some i)=>some (es.set i (k,c))
 | some none=>some (es++[(k,c)])
 | none=>none
def aMY(kind:TypeDesc)(k:Value)(es:List (Value×C)):Option (List (Value×C)):=match aeK kind k es 0 with
 | some (some i)=>some (es.eraseIdx i)
 | some none=>some es
 | none=>none
structure An where
 pan:Bool
 rs:List X
 obs:List Ob
abbrev Orc:=Nat->List X->List Ob->Option An
structure En where
 orc:Orc
 obj:Nat->Bool
 tk:Nat->Bool
 mt:String->Option Nat->Bool
def ae8:List X->X
 | [x]=>x
 | xs=>.tup xs
def d9(P:Program)(f:Nat):Bool:=match P.funcs[f]? with
 | some fn=>fn.body.isSome&&!(fn.name == "runtime.NumGoroutine")
 | none=>false
def adr(clk ix:Nat):Tk->Option Tk
 | .nm 0 0 i=>some (.nm clk ix i)
 | _=>none
def ahD(clk ix:Nat)(xs:List X):List X:=X.trs (λ_=>none) (adr clk ix) xs
def afo(P:Program)(E:En)(clk ix f:Nat)(cs:List C):Out :=
 if d9 P f&&!E.obj f then match E.orc f (cs.map .of) [] with
  | some ⟨false,rs,[]⟩=>out (ae8 (ahD clk ix rs))
  | _=>none
 else none
def amL:Option TypeDesc->Bool
 | none=>false
 | some (.interface _)=>false
 | some _=>true
def apS(x y:X):Out:=match aas x,aas y with
 | some a,some b=>out (aQ (if b<a then b else a))
 | _,_=>none
def apT(x y:X):Out:=match aas x,aas y with
 | some a,some b=>out (aQ (if a<b then b else a))
 | _,_=>none
def asX(T:TT)(u:Nat):X->Bool->Out
 | .of (.ifc t c),true=>if amL ((T u).map (·.und))=true/\t=u then out (.of (.tup [c,.lit (.bool true)])) else none
 | _,_=>none
def aeY(P:Program)(T:TT)(E:En)(s:S)(ix:Nat):Callee->List Operand->List Nat->Out
 | .builtin .len,[x],[t]=>fV ((T t).map (·.und)) (s.ev x)
 | .builtin .append,[a,b],[st,xt]=>dP T (.nm s.clk ix 0) st xt (s.ev a) (s.ev b)
 | .builtin .min,[a,b],_=>apS (s.ev a) (s.ev b)
 | .builtin .max,[a,b],_=>apT (s.ev a) (s.ev b)
 | .value f,args,_=>match s.ev f,abh s.ev args with
  | .of (.fn f caps),some cs=>afo P E s.clk ix f (cs++caps)
  | _,_=>none
 | _,_,_=>none
def ag5:X->Option X
 | .of c=>some (.of c)
 | .nil=>some .nil
 | .own _ _ _ cs n=>some (.of (.sl cs n))
 | .ptr r o=>some (.ptr r o)
 | _=>none
def acE:List X->Option (List X)
 | []=>some []
 | x::l=>match ag5 x,acE l with
  | some y,some r=>some (y::r)
  | _,_=>none
def amV(f:Nat):Option (List X)->Out
 | some xs=>out (.clo f xs)
 | none=>none
def ahQ(g:Nat):Nat:=g / 2
def ako(g:Nat)(caps args:List X):List X:=if g % 2=0 then args++caps else caps++args
def val(P:Program)(T:TT)(E:En)(s:S)(ix:Nat)(o:Oper):Out :=
 match o.op with
 | .move x | .assign x=>out (s.ev x)
 | .pick c a b=>match adm (s.ev c) with
  | some b'=>out (if b' then s.ev a else s.ev b)
  | none=>none
 | .binOp op t x y _=>eT P T t ((T t).map (·.und)) op (s.ev x) (s.ev y)
 | .unOp op _ x=>match s.ev x with
  | .of (.lit u)=>bE ((aqv op u).map λv=>.of (.lit v))
  | _=>none
 | .load t a=>abk T s.objs t (s.ev a)
 | .fieldAddr t x f=>fF T t f (s.ev x)
 | .field t x f=>afO T t f (s.ev x)
 | .indexAddr t x i=>bz T t (s.ev x) (s.ev i)
 | .index t x i=>afL T t (s.ev x) (s.ev i)
 | .slice t x lo hi none=>acJ T t (s.ev x) (lo.map s.ev) (hi.map s.ev)
 | .build t ps=>match T t,fQ s.ev ps.toList with
  | some d,some qs=>match d.und with
   | .struct _=>bE ((aah (λi=>d.fields[i]?) (fj d) qs).map .agg)
   | .array _ e=>match T e with
    | some de=>bE ((aah (λi=>some (i*de.size,de.size)) (fj d) qs).map .agg)
    | none=>none
   | _=>none
  | _,_=>none
 | .buildSlice t' n ps=>match elemOf T t',fQ s.ev ps.toList with
  | some (e,d),some qs =>
   if n*d.size<=16777216/\0<d.size/\d.zero.length=d.size then match aah (λi=>some (i*d.size,d.size)) ((List.replicate n (fj d)).flatten) qs with
    | some xs=>match X.rds xs with
     | some cs=>out (.own (.nm s.clk ix 0) e d.size cs n)
     | none=>none
    | none=>none
   else none
  | _,_=>none
 | .extract x i=>match s.ev x with
  | .tup xs=>bE (xs[i]?)
  | .of (.tup cs)=>bE ((cs[i]?).map .of)
  | _=>none
 | .nilCheck x=>match s.ev x with
  | .ptr r off=>out (.ptr r off)
  | .of (.ref cs)=>out (.of (.ref cs))
  | _=>none
 | .makeFunc (.func f) first caps=>if first.size=0 then match abh s.ev caps.toList with
  | some cs=>out (.of (.fn f cs))
  | none=>amV (2*f) (acE (caps.toList.map s.ev))
  else if caps.size=0 then amV (2*f+1) (acE (first.toList.map s.ev)) else none
 | .convert a b x=>aed T a b (s.ev x)
 | .lookup t x i ok=>aei T s.objs t (s.ev x) (s.ev i) ok
 | .makeInterface t x=>match amL ((T t).map (·.und)),(s.ev x).rd with
  | true,some c=>out (.of (.ifc t c))
  | _,_=>none
 | .typeAssert x _ u ok=>asX T u (s.ev x) ok
 | .call {callee:=cal,args:=args,argTypes:=tys}=>aeY P T E s ix cal args.toList tys.toList
 | .alloc t=>match T t with
  | some d=>if 0<d.size then out (.nw (some (.nm s.clk ix 0)) t d.size) else none
  | none=>none
 | .store t (.tmp d) x=>match T t,s.fr d,ec (s.ev x),o.guard,o.dst with
  | some td,.nw (some tk) ty z,some cs,none,none=>if ty=t/\z=td.size/\cs.length=z then some (.of (.ref cs),some tk) else none
  | _,_,_,_,_=>none
 | _=>none
def dB(o:Oper):Option Nat:=match o.op,o.guard with
 | .store _ (.tmp d) _,none=>some d
 | _,_=>o.dst
def aae(clk:Nat)(after:List Edge):Option Tk->Bool
 | some (.nm c ix _)=>decide (c<clk)||(decide (c=clk)&&after.any λe=>Region.binds .any e&&e.on == ix)
 | some (.cell _ o)=>!(o == 1099511627776)
 | none=>true
def aj7{clk:Nat}{af:List Edge}{t:Tk}(h:aae clk af (some t)=true):t.isRow=false:=by
 cases t with
 | nm c ix i=>rfl
 | cell r o=>simpa [aae,Tk.isRow] using h
def eV(P:Program)(T:TT)(E:En)(s:S)(ix:Nat)(o:Oper):Option (Option X×S):=match val P T E s ix o with
 | some (x,t)=>if aae s.clk o.after.toList t=true then some (none,(s.drop t).put (dB o) x) else none
 | none=>none
def dN(r:Nat):Nat->List X->List (Tk×Tk)
 | _,[]=>[]
 | off,.own t _ _ _ _::l=>(t,.cell r off)::dN r (off+1) l
 | off,_::l=>dN r (off+1) l
def acF:List (Tk×Tk)->Tk->Option Tk
 | [],_=>none
 | (a,b)::l,t=>if a=t then some b else acF l t
def aar(r off n:Nat)(mv:List (Tk×Tk))(t:Tk):Option Tk:=match acF mv t with
 | some t'=>some t'
 | none=>match t with
  | .cell r' o'=>if r'=r/\off<=o'/\o'<off+n then none else some t
  | .nm ..=>some t
def ace:List X->Bool
 | []=>true
 | .own ..::_=>false
 | _::l=>ace l
def S.tr(ρ:Tk->Option Tk)(s:S):S:={s with fr:=λj=>(s.fr j).tr some ρ,objs:=s.objs.map (Ob.tr some ρ)}
def apY(r off:Nat)(xs ys:List X)(s:S):S:=if ace xs&&ace ys then s else s.tr (aar r off xs.length (dN r off xs))
def al4(s:S)(d:Option Nat)(ty:Nat)(xs:List X):S:=(apY s.objs.length 0 xs [] {s with objs:=s.objs++[Ob.var ty xs]}).put d (.ptr s.objs.length 0)
def aoN(s:S)(j ty:Nat)(xs:List X):S:={s with objs:=s.objs++[Ob.var ty xs]}.put (some j) (.ptr s.objs.length 0)
def afv(s:S)(d:Option Nat)(n r off:Nat)(xs:List X):Option S:=match s.objs[r]? with
 | some (.var ty ys)=>if xs.length=n/\off+xs.length<=ys.length then
   some ((apY r off xs ((ys.drop off).take xs.length) {s with objs:=s.objs.set r (Ob.var ty (ys.take off++xs++ys.drop (off+xs.length)))}).put d (.of .undef))
  else none
 | _=>none
def adJ(s:S)(c:Callee)(args:List Operand):Option (Nat×List X):=match c with
 | .value f=>match s.ev f with
  | .of (.fn g caps)=>some (g,args.map s.ev++caps.map .of)
  | .clo g caps=>some (ahQ g,ako g caps (args.map s.ev))
  | _=>none
 | _=>none
def afq(s:S)(ix:Nat)(d:Option Nat)(refs:List Nat)(ts:List Tk)(an:An):Option (Option X×S) :=
 let σ:=λi=>some (ce refs s.objs.length i)
 let ρ:=cB refs s.objs.length s.clk ix
 if refs.length<=an.obs.length then
  let s':S:={s with fr:=λj=>(s.fr j).tr some (cf refs ts),objs:=aai σ ρ (s.objs.map (Ob.tr some (cf refs ts))) refs an.obs++(an.obs.drop refs.length).map (Ob.tr σ ρ)}
  match an with
  | ⟨true,[x],_⟩=>some (some (x.tr σ ρ),s')
  | ⟨true,_,_⟩=>none
  | ⟨false,rs,_⟩=>some (none,s'.put d (ae8 (X.trs σ ρ rs)))
 else none
def ac5:Option Ob->Bool
 | some ob=>ob.live
 | none=>false
def af7(objs:List Ob):List Nat->Bool
 | []=>true
 | r::l=>ac5 objs[r]?&&af7 objs l
def aj5:Bool->Option (List Ob)->Option (List Ob)
 | true,x=>x
 | false,_=>none
def callS(P:Program)(E:En)(s:S)(ix:Nat)(d:Option Nat)(f:Nat)(us:List X):Option (Option X×S) :=
 if d9 P f then
  let refs:=dQ s.objs 999 (X.refsL us) []
  let ts:=if E.tk f then nub (X.toksL us) [] else []
  match aj5 (af7 s.objs refs) (aaj (pos refs) (fD refs ts) (aeX ts s.objs) refs) with
  | some obs=>match E.orc f (X.trs (pos refs) (fD refs ts) us) obs with
   | some an=>afq s ix d refs ts an
   | none=>none
  | none=>none
 else none
def afk(r:Nat)(t:Tk):Option Tk:=if t=abq r then none else some t
def apL(T:TT)(s:S)(ix:Nat)(d:Option Nat)(t r e z:Nat):Option (Nat×TD)->Option Int->Option S
 | some (e',td),some 0=>if e'=e/\td.size=z then match s.objs[r]? with
  | some (.row _ (_::_))=>some (({s.tr (afk r) with objs:=((s.tr (afk r)).objs).set r (.row e [])}:S).put d (.own (.nm s.clk ix 0) e z [] 0))
  | _=>none
  else none
 | _,_=>none
def hiX:Option X->Option Int
 | some x=>aas x
 | none=>none
def aaV(P:Program)(T:TT)(E:En)(dr:Bool)(s:S)(ix:Nat)(o:Oper):Option (Option X×S) :=
 if dr then eV P T E s ix o else
 match o.op with
 | .alloc t=>if E.mt o.pos o.dst then match T t with
   | some d=>some (none,al4 s o.dst t (fj d))
   | none=>none
  else eV P T E s ix o
 | .box t x=>if E.mt o.pos o.dst then match T t,cn (s.ev x) with
   | some d,some xs=>if xs.length=d.size then some (none,al4 s o.dst t xs) else none
   | _,_=>none
  else match T t,ec (s.ev x) with
   | some d,some cs=>if cs.length=d.size/\0<d.size then some (none,s.put o.dst (.of (.ref cs))) else none
   | _,_=>none
 | .store t a x=>match s.ev a with
  | .nw (some tk) ty z=>if E.mt o.pos (dB o) then match T t,cn (s.ev x),dB o with
    | some d,some xs,some j=>if ty=t/\z=d.size/\xs.length=z/\aae s.clk o.after.toList (some tk)=true/\o.dst=none then some (none,aoN (s.drop (some tk)) j t (X.drops tk xs)) else none
    | _,_,_=>none
   else eV P T E s ix o
  | _=>match T t,s.ev a,cn (s.ev x) with
   | some d,.ptr r off,some xs=>(afv s o.dst d.size r off xs).map λs=>(none,s)
   | _,_,_=>none
 | .makeMap _ none=>some (none,{s with objs:=s.objs++[Ob.map []]}.put o.dst (.mp s.objs.length))
 | .mapUpdate t m k x=>match agD T t,s.ev m,fu (s.ev k),(s.ev x).rd with
  | some (kind,_),.mp r,some kv,some c=>match s.objs[r]? with
   | some (.map es)=>match amv kind kv c es with
    | some es'=>some (none,{s with objs:=s.objs.set r (Ob.map es')}.put o.dst (.of .undef))
    | none=>none
   | _=>none
  | _,_,_,_=>none
 | .insert t m k x=>match agD T t,s.ev m,fu (s.ev k),(s.ev x).rd with
  | some (kind,_),.mp r,some kv,some c=>match s.objs[r]? with
   | some (.map es)=>match amv kind kv c es with
    | some es'=>some (none,{s with objs:=s.objs.set r (Ob.map es')}.put o.dst (.of .undef))
    | none=>none
   | _=>none
  | _,_,_,_=>none
 | .call {callee:=.builtin .delete,args:=args,argTypes:=tys}=>match args.toList,tys.toList with
  | [m,k],[t,_]=>match agD T t,s.ev m,fu (s.ev k) with
   | some (kind,_),.mp r,some kv=>match s.objs[r]? with
    | some (.map es)=>match aMY kind kv es with
     | some es'=>some (none,{s with objs:=s.objs.set r (Ob.map es')}.put o.dst (.tup []))
     | none=>none
    | _=>none
   | _,_,_=>none
  | _,_=>none
 | .panic x=>match (s.ev x).rd with
  | some (.ifc t c)=>some (some (.of (.ifc t c)),s)
  | _=>none
 | .slice t x none hi none=>match s.ev x with
  | .top r e z=>(apL T s ix o.dst t r e z (elemOf T t) (hiX (hi.map s.ev))).map λs=>(none,s)
  | _=>eV P T E s ix o
 | .call {callee:=.value f,args:=args,argTypes:=_}=>match adJ s (.value f) args.toList with
  | some (g,us)=>if E.obj g then callS P E s ix o.dst g us else eV P T E s ix o
  | none=>none
 | _=>eV P T E s ix o
def dI(ops:Array Oper)(s:S)(o:Oper):Option Bool :=
 match o.guard with
 | none=>some true
 | some (j,want)=>match (ops[j]?).bind (·.dst) with
  | some d=>match s.fr d with
   | .of (.lit (.bool b))=>some (b == want)
   | .of .undef=>some false
   | _=>none
  | none=>some false
def bv(P:Program)(T:TT)(E:En)(dr:Bool)(ops:Array Oper)(s:S)(ix:Nat)(o:Oper):Option (Option X×S) :=
 match dI ops s o with
 | some true=>aaV P T E dr s ix o
 | some false=>some (none,s.put o.dst (.of .undef))
 | none=>none
def aa1(P:Program)(T:TT)(E:En)(dr:Bool)(ops:Array Oper):Nat->List Oper->S->Option (Option X×S)
 | _,[],s=>some (none,s)
 | k,o::r,s=>match bv P T E dr ops s k o with
  | some (none,s')=>aa1 P T E dr ops (k+1) r s'
  | some (some x,s')=>some (some x,s')
  | none=>none
def cL:Op->Bool
 | .store ..=>true
 | _=>false
def aaU:List Oper->Bool
 | []=>false
 | [o]=>cL o.op&&o.guard.isNone
 | _::o::l=>aaU (o::l)
def aem(obj:Nat->Bool):Op->Bool
 | .call {callee:=.value (.func g),args:=args,..}=>args.isEmpty&&obj g
 | _=>false
def aib(obj:Nat->Bool):List Oper->Bool
 | []=>false
 | o::_=>aem obj o.op&&o.guard.isNone
def spB(obj:Nat->Bool)(l:List Oper):Bool:=aib obj l||aaU l
def mkA(P:Program)(E:En):Op->Option (List (Value×C))
 | .call {callee:=.value (.func g),..}=>if d9 P g then match E.orc g [] [] with
  | some ⟨false,[.mp 0],[.map es]⟩=>some es
  | _=>none
  else none
 | _=>none
def mkS(P:Program)(E:En)(s:S)(o:Oper):Option S:=(mkA P E o.op).map λes=>{s with objs:=s.objs++[Ob.map es]}.put o.dst (.mp s.objs.length)
def ach(P:Program)(T:TT)(E:En)(ops:Array Oper):Nat->List Oper->S->Option (Option X×S)
 | _,[],_=>none
 | k,[o],s=>match bv P T E false ops s k o with
  | some (none,s')=>some (none,s')
  | _=>none
 | k,o::o'::l,s=>match bv P T E true ops s k o with
  | some (none,s')=>ach P T E ops (k+1) (o'::l) s'
  | _=>none
def amR(P:Program)(T:TT)(E:En)(ops:Array Oper)(l:List Oper)(s:S):Option (Option X×S) :=
 if aaU l=true then ach P T E ops 0 l s else match l with
  | o::r=>match mkS P E s o with
   | some s1=>aa1 P T E true ops 1 r s1
   | none=>none
  | []=>none
def opK:Op->Nat
 | .store ..=>1
 | .assign _=>2
 | .alloc _=>3
 | .load _ _=>4
 | _=>0
def aNC:Op->Option Nat
 | .store _ (.tmp d) _=>some d
 | _=>none
def akJ:List Oper->Option Nat
 | []=>none
 | [_]=>none
 | [o,o']=>if (cL o.op&&o.guard.isNone&&(o'.guard.isNone&&(cL o'.op||opK o'.op == 2)))=true then aNC o.op else none
 | _::o::o'::l=>akJ (o::o'::l)
def eqD:Option Nat->Nat->Bool
 | some a,d=>a == d
 | none,_=>false
def alM(d:Nat):List Oper->Bool
 | []=>false
 | o::l=>(opK o.op == 3&&eqD o.dst d)||alM d l
def tlM(l:List Oper):Option Nat->Bool
 | some d=>!alM d l
 | none=>false
def tlB(l:List Oper):Bool:=tlM l (akJ l)
def aEc(s:S):Op->Bool
 | .load _ a=>match s.ev a with
  | .of (.ref _)=>true
  | _=>false
 | _=>false
def ae4(s:S)(o:Oper):Bool:=!(opK o.op == 4)||aEc s o.op
def ahN(P:Program)(T:TT)(E:En)(ops:Array Oper):Nat->List Oper->S->Option (Option X×S)
 | k,o::o'::o''::l,s=>if ae4 s o=true then match bv P T E true ops s k o with
   | some (none,s')=>ahN P T E ops (k+1) (o'::o''::l) s'
   | _=>none
  else none
 | k,[o,o'],s=>match bv P T E false ops s k o with
  | some (none,s')=>match bv P T E false ops s' (k+1) o' with
   | some (none,s'')=>some (none,s'')
   | _=>none
  | _=>none
 | _,_,_=>none
def acM(obj:Nat->Bool):Op->Bool
 | .call {callee:=.value (.func g),..}=>obj g
 | _=>false
def acw(obj:Nat->Bool):List Oper->Nat
 | []=>0
 | [o]=>if (acM obj o.op&&o.guard.isNone)=true then 1 else 0
 | [o,o']=>if (acM obj o'.op&&o'.guard.isNone)=true then 1 else if (acM obj o.op&&o.guard.isNone&&(opK o'.op == 2&&o'.guard.isNone))=true then 2 else 0
 | _::o::o'::l=>acw obj (o::o'::l)
def okS:Option (Option X×S)->Option S
 | some (none,s)=>some s
 | _=>none
def kM(obj:Nat->Bool)(o:Oper):Bool:=aem obj o.op&&o.guard.isNone
def stX(P:Program)(T:TT)(E:En)(ops:Array Oper)(t:Bool)(s:S)(i:Nat)(o:Oper):Option S :=
 if t=true then okS (bv P T E false ops s i o) else if kM E.obj o=true then mkS P E s o else okS (bv P T E true ops s i o)
def evD(P:Program)(T:TT)(E:En)(ops:Array Oper)(n:Nat):Nat->Bool->List Oper->S->Option S
 | _,_,[],s=>some s
 | k,b,o::l,s =>
  if (b&&(!decide (l.length<n)&&kM E.obj o))=true then none else match stX P T E ops (decide (l.length<n)) s k o with
   | some s'=>evD P T E ops n (k+1) (b||(!decide (l.length<n)&&kM E.obj o)) l s'
   | none=>none
def wB(ops:Array Oper)(i:Nat):Nat->Nat->Bool
 | 0,_=>false
 | f+1,j=>match ops[j]? with
  | some o=>o.after.any λe=>Region.binds .any e&&(e.on == i||wB ops i f e.on)
  | none=>false
def ap8(ops:Array Oper)(n:Nat):Bool:=(List.range ops.size).all λt=>decide (t+n<ops.size)||(List.range t).all λi=>wB ops i ops.size t
def abZ(N:Nat)(o:Oper):Bool:=(match o.dst with
 | some d=>decide (d<N)
 | none=>true)&&match dB o with
 | some d=>decide (d<N)
 | none=>true
def afe(ops:Array Oper)(i:Nat):Bool:=match ops[i]? with
 | some o=>match dB o with
  | some d=>o.dst.isNone&&(List.range ops.size).all λj=>j == i||match ops[j]? with
   | some oj=>!(oj.looksAt ops).contains d&&(dB oj != some d||(!cL oj.op&&o.after.any λe=>Region.binds .any e&&e.on == j))
   | none=>true
  | none=>false
 | none=>false
def bbg(obj:Nat->Bool)(o:Oper):Bool:=o.guard.isNone&&match o.op with
 | .call {callee:=.value (.func g),..}=>obj g
 | .call {callee:=.value (.tmp _),args:=args,..}=>args.isEmpty
 | _=>false
def aqU:Operand->Option Nat
 | .tmp t=>some t
 | _=>none
def alR(a b c:Oper):Bool:=(a.guard.isNone&&b.guard.isNone&&(c.guard.isNone&&c.dst.isNone))&&match a.op,b.op,c.op,a.dst,b.dst with
 | .call {callee:=.builtin .append,args:=asx,argTypes:=ts},.indexAddr t (.tmp x) i,.store _ (.tmp y) v,some d,some d'=>d == x&&d' == y&&d != d'&&ts.toList == [t,t]&&asx.size == 2&&(aqU i != some d)&&(aqU v != some d&&aqU v != some d')
 | _,_,_,_,_=>false
def aw1:Nat->List Oper->Option Nat
 | k,a::b::c::l=>if alR a b c=true then some k else aw1 (k+1) (b::c::l)
 | _,_=>none
def a0k(obj:Nat->Bool)(m:Nat):Nat->List Oper->Option Nat
 | _,[]=>none
 | k,o::l=>if k<m/\bbg obj o=true then some k else a0k obj m (k+1) l
def aor:Op->Bool
 | .move _=>true
 | .load _ _=>true
 | .fieldAddr _ _ _=>true
 | .indexAddr _ _ _=>true
 | .nilCheck _=>true
 | .binOp ..=>true
 | .buildSlice ..=>true
 | .call {callee:=.builtin .len,..}=>true
 | _=>false
def uAt(ops:Array Oper)(i:Nat):Bool:=match ops[i]? with
 | some o=>aor o.op&&o.guard.isNone
 | none=>false
def agv(ops:Array Oper):List Nat->Array Bool->Bool
 | [],_=>true
 | i::l,listed=>(Region.ready .any ops listed).contains i&&Region.free .any ops listed i&&agv ops l (listed.setIfInBounds i true)
structure Pn where
 c:Option Nat
 pre:List (Nat×Bool)
 mid:List (Nat×Bool)
 m:Nat
 push:Bool
def aeS(ops:Array Oper)(c:Option Nat)(i:Nat):Bool:=match c with
 | some c=>wB ops c ops.size i
 | none=>false
def agw(ops:Array Oper)(c:Option Nat)(i:Nat):Bool:=match c with
 | some c=>wB ops i ops.size c
 | none=>true
def Pn.ord(p:Pn):List Nat:=p.pre.map (·.1)++p.c.toList++p.mid.map (·.1)
def aCM(c n f g:Oper):Bool:=(n.guard.isNone&&f.guard.isNone&&(g.guard.isNone&&g.dst.isNone))&&match n.op,n.dst,f.op,f.dst,g.op with
 | .nilCheck _,some e,.fieldAddr _ (.tmp e1) _,some e',.store _ (.tmp e2) _=>e1 == e&&e2 == e'&&c.op.operands.toList.all λy=>aqU y != some e&&aqU y != some e'
 | _,_,_,_,_=>false
def aw0:List Oper->Bool
 | [a,b,c,n,f,g]=>alR a b c&&aCM c n f g
 | _=>false
def six(ops:Array Oper)(k:Nat)(l:Array Bool):Bool :=
 let l1:=l.setIfInBounds k true
 let l2:=l1.setIfInBounds (k+1) true
 let l3:=l2.setIfInBounds (k+3) true
 let l4:=l3.setIfInBounds (k+4) true
 let l5:=l4.setIfInBounds (k+2) true
 let l6:=l4.setIfInBounds (k+5) true
 (Region.noSelect ops&&(Region.ready .any ops l == [k]))&&((Region.free .any ops l1 (k+1)&&(Region.ready .any ops l1).contains (k+1))&&(Region.free .any ops l2 (k+3)&&(Region.ready .any ops l2).contains (k+3))) &&
  ((Region.free .any ops l3 (k+4)&&(Region.ready .any ops l3).contains (k+4))&&(Region.ready .any ops l4 == [k+2,k+5])&&((Region.ready .any ops l5 == [k+5])&&(Region.ready .any ops l6 == [k+2])))&&(Region.ready .any ops (l5.setIfInBounds (k+5) true) == [])
def akc(n k:Nat):Array Bool:=((List.range n).map λi=>decide (i<k)).toArray
def aMN(ops:Array Oper)(m:Nat):Bool:=(List.range ops.size).all λt=>decide (t<m)||(List.range m).all λi=>wB ops i ops.size t
def aAW(ops:Array Oper)(m:Nat):Bool->Bool
 | true=>aw0 (ops.toList.drop m)&&six ops m (akc ops.size m)
 | false=>ap8 ops (ops.size-m)
def aI8(ops:Array Oper)(i:Nat):Bool:=match ops[i]? with
 | some o=>o.guard.isNone
 | none=>false
def aCY(ops:Array Oper)(i:Nat):Bool:=match ops[i]? with
 | some o=>!cL o.op||afe ops i
 | none=>false
def aqR(ops:Array Oper)(p:Pn):Bool :=
 (agv ops (p.ord++(List.range ops.size).drop p.m) (Array.replicate ops.size false)&&aMN ops p.m)&&(decide (p.m<=ops.size)&&decide (p.ord.length=p.m)) &&
 ((((List.range p.m).all λi=>p.ord.contains i)&&p.ord.all λi=>decide (i<p.m)&&aCY ops i)&&((p.pre.map (·.1)++p.mid.map (·.1)).all λi=>some i != p.c)) &&
 ((p.c.toList.all λi=>aI8 ops i)&&((p.pre.all λx=>(!x.2||agw ops p.c x.1)&&(agw ops p.c x.1||uAt ops x.1))&&p.mid.all λx=>x.2&&aeS ops p.c x.1)&&aAW ops p.m p.push)
def aOt(l:List Oper):Nat:=(l.reverse.takeWhile λo=>cL o.op).length
def aOA(ops:Array Oper):Nat:=match aw1 0 ops.toList with
 | some k=>k
 | none=>if 2<=aOt ops.toList then ops.size-aOt ops.toList else ops.size-1
def a3D(ops:Array Oper)(c:Option Nat)(m:Nat)(b:Bool):Pn :=
 ⟨c,((List.range m).filter λi=>some i != c&&!aeS ops c i).map λi=>(i,agw ops c i),((List.range m).filter λi=>aeS ops c i).map λi=>(i,true),m,b⟩
def aOz(obj:Nat->Bool)(ops:Array Oper):Pn:=a3D ops (a0k obj (aOA ops) 0 ops.toList) (aOA ops) (aw1 0 ops.toList).isSome
def aiP(obj:Nat->Bool)(ops:Array Oper):Option Pn:=if aqR ops (aOz obj ops)=true then some (aOz obj ops) else none
def abb:X->Bool
 | .top ..=>false
 | _=>true
def acm(s:S):List Operand->Bool
 | []=>true
 | x::l=>abb (s.ev x)&&acm s l
def akX(b:Bool):Option (List Nat):=match b with
 | true=>some []
 | false=>none
def afj:X->Option (List Nat)
 | .of (.ref _)=>some []
 | .ptr r _=>some [r]
 | _=>none
def ael(s:S):Op->Option (List Nat)
 | .load _ a=>afj (s.ev a)
 | .call {callee:=.builtin .len,args:=args,..}=>akX (acm s args.toList)
 | .buildSlice _ _ ps=>akX (acm s (ps.toList.map (·.2)))
 | .indexAddr _ x _=>akX (acm s [x])
 | _=>some []
def ldD(s:S)(b:Bool)(o:Op):Option (List Nat):=match b with
 | true=>some []
 | false=>ael s o
def evA(P:Program)(T:TT)(E:En)(ops:Array Oper):List (Nat×Bool)->List Nat->S->Option (List Nat×S)
 | [],D,s=>some (D,s)
 | x::l,D,s=>match ops[x.1]? with
  | some o=>match ldD s x.2 o.op with
   | some D'=>match bv P T E true ops s x.1 o with
    | some (none,s')=>evA P T E ops l (D'++D) s'
    | _=>none
   | none=>none
  | none=>none
def ayn(obj tk:Nat->Bool)(s:S)(D:List Nat):Option (Nat×List X)->Bool
 | some (g,us)=>obj g&&!tk g&&(dQ s.objs 999 (X.refsL us) []).all λr=>!D.contains r
 | none=>false
def an1(obj tk:Nat->Bool)(s:S)(D:List Nat):Op->Bool
 | .call {callee:=cal,args:=args,..}=>ayn obj tk s D (adJ s cal args.toList)
 | _=>false
def blank(s:S):S:={s with fr:=λ_=>.of .any}
def agz:Option (Option X×S)->Option (Option X×S)
 | some (some x,s)=>some (some x,blank s)
 | r=>r
def aih(P:Program)(T:TT)(E:En)(ops:Array Oper)(D:List Nat)(s:S):Option Nat->Option (Option X×S)
 | none=>some (none,s)
 | some c=>match ops[c]? with
  | some o=>if an1 E.obj E.tk s D o.op=true then agz (aaV P T E false s c o) else none
  | none=>none
def aoA(s:S)(tk:Tk)(e:Nat)(d:TD)(ys:List C)(j:Int):X->Option (X×Option Tk×List Ob)
 | .nil=>if j=0/\d.bytes<=32768 then some (.own tk e d.size ys 1,none,[]) else none
 | .own t e' z cs n=>if e'=e/\z=d.size/\j=(n:Int)/\n+1<=LIM/\d.bytes<=32768 then (if n=0 then some (.top s.objs.length e z,some t,[.row e ys]) else some (.own tk e z (cs++ys) (n+1),some t,[])) else none
 | _=>none
def aqO(T:TT)(s:S)(ix:Nat)(a b c:Oper)(st:Nat)(x y i v:Operand)(ty:Nat):Option S:=match elemOf T st,aaT (s.ev y),aas (s.ev i),ec (s.ev v) with
 | some (e,d),some (cs,1),some j,some ys=>if cs.length=d.size/\ys.length=d.size/\0<d.size/\ty=e then match aoA s (.nm s.clk ix 0) e d ys j (s.ev x) with
  | some (z,t,obs)=>if aae s.clk a.after.toList t=true then some (({s.drop t with objs:=(s.drop t).objs++obs}:S).put a.dst z |>.put b.dst (.of .any)) else none
  | none=>none
  else none
 | _,_,_,_=>none
def amw(T:TT)(s:S)(ix:Nat)(a b c:Oper):Option S:=match a.op,b.op,c.op with
 | .call {callee:=.builtin .append,args:=asx,argTypes:=ts},.indexAddr st _ i,.store ty _ v=>match asx.toList with
  | [x,y]=>aqO T s ix a b c st x y i v ty
  | _=>none
 | _,_,_=>none
def evT(P:Program)(T:TT)(E:En)(ops:Array Oper)(k:Nat)(s:S)(push:Bool)(l:List Oper):Option (Option X×S):=match push with
 | true=>match l with
  | a::b::c::l=>match amw T s k a b c with
   | some s'=>aa1 P T E false ops (k+3) l s'
   | none=>none
  | _=>none
 | false=>aa1 P T E false ops k l s
def evP(P:Program)(T:TT)(E:En)(ops:Array Oper)(p:Pn)(s:S):Option (Option X×S):=match evA P T E ops p.pre [] s with
 | some (D,s1)=>match aih P T E ops D s1 p.c with
  | some (none,s2)=>match evA P T E ops p.mid [] s2 with
   | some (_,s3)=>evT P T E ops p.m s3 p.push (ops.toList.drop p.m)
   | none=>none
  | r=>r
 | none=>none
def plB(mt:String->Option Nat->Bool):List Oper->Bool
 | []=>false
 | o::_=>mt o.pos none
def ax4(P:Program)(T:TT)(E:En)(ops:Array Oper)(s:S):Option Pn->Option (Option X×S)
 | some p=>evP P T E ops p s
 | none=>none
def evR(P:Program)(T:TT)(E:En)(draw:Bool)(ops:Array Oper)(s:S):Option (Option X×S) :=
 if (draw&&plB E.mt ops.toList)=true then ax4 P T E ops s (aiP E.obj ops)
 else if (draw&&tlB ops.toList)=true then ahN P T E ops 0 ops.toList s
 else if (draw&&!(acw E.obj ops.toList == 0))=true then (evD P T E ops (acw E.obj ops.toList) 0 false ops.toList s).map λs=>(none,s)
 else if (draw&&spB E.obj ops.toList)=true then amR P T E ops ops.toList s else aa1 P T E draw ops 0 ops.toList s
def aq2(o:Oper):Bool:=match o.op,o.guard with
 | .extract _ _,none=>true
 | _,_=>false
def alN(ops:Array Oper)(i:Nat):Bool:=match ops[i]?,ops[ops.size-1]? with
 | some o,some l=>aq2 o&&match dB l with
  | some d=>!(o.looksAt ops).contains d&&o.dst != some d
  | none=>true
 | _,_=>false
def anS(ops:Array Oper):Bool:=(List.range (ops.size-1)).all λi=>alN ops i||(List.range ops.size).any λk=>decide (i<k)&&match ops[k]? with
 | some o=>!aq2 o&&o.after.any λe=>Region.binds .any e&&e.on == i
 | none=>false
inductive Ex where
 | normal
 | exit (id:Nat)
 | ret
 | pan (x:X)
def adQ(xs:List X)(obs:List Ob):S:={fr:=λj=>xs.getD j (.of .undef),objs:=obs,clk:=1}
def acx(T:TT)(s:S):List ResultVar->Option (List X)
 | []=>some []
 | .tmp t::r=>(acx T s r).map (s.fr t::·)
 | .cell a t::r=>match abk T s.objs t (s.fr a),acx T s r with
  | some (x,_),some q=>some (x::q)
  | _,_=>none
def aec(m:Nat)(pan:Bool)(rs:List X)(objs:List Ob):Option An :=
 let refs:=dQ objs 999 (X.refsL rs++((objs.take m).map Ob.refs).flatten) (List.range m)
 let ts:=(nub (X.toksL rs) []).filter λt=>match t with
  | .nm ..=>true
  | .cell r _=>!decide (r∈refs)
 (aaj (pos refs) (fD refs ts) objs refs).map λobs=>⟨pan,X.trs (pos refs) (fD refs ts) rs,obs⟩
def aj0(ops:Array Oper):Bool:=(List.range ops.size).all λi=>match ops[i]? with
 | some o=>!cL o.op||(aaU ops.toList&&i+1 == ops.size)||afe ops i
 | none=>true
def als(ops:Array Oper)(k j:Nat):Bool:=match ops[k]? with
 | some o=>o.after.any λe=>Region.binds .any e&&e.on == j
 | none=>false
def axB(ops:Array Oper)(i m:Nat):Bool:=match ops[i]?,ops[m]? with
 | some o,some l=>(opK o.op == 4&&o.guard.isNone)&&match dB l with
  | some d=>!(o.looksAt ops).contains d&&o.dst != some d
  | none=>true
 | _,_=>false
def ajZ(ops:Array Oper):Bool:=((List.range (ops.size-2)).all λi=>(match ops[i]? with
 | some o=>!cL o.op
 | none=>true)&&(als ops (ops.size-2) i||axB ops i (ops.size-2)))&&(List.range (ops.size-1)).all λj=>als ops (ops.size-1) j
def aD1:Op->Bool
 | .call {callee:=.value (.func _),args:=args,..}=>args.isEmpty
 | _=>false
def ap1:Op->Bool
 | .lookup ..=>true
 | _=>false
def opP(ops:Array Oper)(p:Op->Bool)(i:Nat):Bool:=match ops[i]? with
 | some o=>p o.op
 | none=>false
def aq3(ops:Array Oper):Bool:=(List.range ops.size).all λm=>!opP ops aD1 m||(List.range ops.size).all λj=>!opP ops ap1 j||wB ops m ops.size j
def aDl(mt:String->Option Nat->Bool)(N:Nat)(ops:Array Oper)(draw:Bool):Bool:=ops.all (abZ N)&&(!draw||plB mt ops.toList||(Region.lexB .any ops&&(ap8 ops (acw (λ_=>true) ops.toList)&&aq3 ops)&&if tlB ops.toList then ajZ ops else aj0 ops&&(!aaU ops.toList||anS ops)))
def aa3(mt:String->Option Nat->Bool)(N:Nat):Code->Bool
 | .region _ ops draw=>aDl mt N ops draw
 | .seq a b=>aa3 mt N a&&aa3 mt N b
 | .cond _ a b=>aa3 mt N a&&aa3 mt N b
 | .block _ c=>aa3 mt N c
 | .loop c=>aa3 mt N c
 | .scope c=>aa3 mt N c
 | _=>true
def al2(P:Program)(f:Nat):Code:=match P.funcs[f]? with
 | some fn=>fn.body.getD .skip
 | none=>.skip
def ao6(P:Program)(f:Nat):Nat:=match P.funcs[f]? with
 | some fn=>fn.ntmps
 | none=>0
def aef(P:Program)(f:Nat):List ResultVar:=match P.funcs[f]? with
 | some fn=>fn.results.toList
 | none=>[]
def as5(mt:String->Option Nat->Bool)(P:Program)(f:Nat):Bool:=match P.funcs[f]? with
 | some fn=>fn.body.isSome&&aa3 mt fn.ntmps (fn.body.getD .skip)
 | none=>false
structure Pr where
 prim:Orc
 obj:Nat->Bool
 tk:Nat->Bool
 keep:Nat->Bool
 mt:String->Option Nat->Bool
def aqI(x:X):Option C->X
 | some c=>.of c
 | none=>x
def air(x:X):X:=aqI x x.rd
def agI(keep:Bool)(rs:List X):List X:=match keep with
 | true=>rs
 | false=>rs.map air
def al1(P:Program)(T:TT)(mt:String->Option Nat->Bool)(keep:Nat->Bool)(run:Code->S->Option (Ex×S))(f:Nat)(xs:List X)(obs:List Ob):Option An :=
 if as5 mt P f=true/\xs.length<=ao6 P f then match run (al2 P f) (adQ xs obs) with
  | some (.normal,s)=>(acx T s (aef P f)).bind λrs=>aec obs.length false (agI (keep f) rs) s.objs
  | some (.ret,s)=>(acx T s (aef P f)).bind λrs=>aec obs.length false (agI (keep f) rs) s.objs
  | some (.pan x,s)=>aec obs.length true [x] s.objs
  | _=>none
 else none
def aoB(P:Program)(T:TT)(pr:Pr)(run:Code->S->Option (Ex×S)):Orc:=λf xs obs =>
 match pr.prim f xs obs with
 | some r=>some r
 | none=>al1 P T pr.mt pr.keep run f xs obs
def aii(P:Program)(T:TT)(pr:Pr)(run:Code->S->Option (Ex×S)):En:=⟨aoB P T pr run,pr.obj,pr.tk,pr.mt⟩
def evC(P:Program)(T:TT)(pr:Pr):Nat->Code->S->Option (Ex×S)
 | 0,_,_=>none
 | n+1,c,s=>match c with
  | .skip=>some (.normal,s)
  | .ret=>some (.ret,s)
  | .exit i=>some (.exit i,s)
  | .seq a b=>match evC P T pr n a s with
   | some (.normal,s')=>evC P T pr n b s'
   | r=>r
  | .block i c=>match evC P T pr n c s with
   | some (.exit j,s')=>some (if j=i then .normal else .exit j,s')
   | r=>r
  | .cond c a b=>match adm (s.ev c) with
   | some true=>evC P T pr n a s
   | some false=>evC P T pr n b s
   | none=>none
  | .loop c=>match evC P T pr n c s with
   | some (.normal,s')=>evC P T pr n (.loop c) s'
   | r=>r
  | .scope c=>evC P T pr n c s
  | .label _=>some (.normal,s)
  | .region _ ops draw=>match evR P T (aii P T pr (evC P T pr n)) draw ops s with
   | some (none,s')=>some (.normal,{s' with clk:=s'.clk+1})
   | some (some x,s')=>some (.pan x,{s' with clk:=s'.clk+1})
   | none=>none
  | _=>none
end Go.Pe
namespace Go.Pe
open RowKit
abbrev Mem:=Nat->Nat->Option Value
mutual
def Rep(m:Mem):C->Value->Prop
 | .any,_=>True
 | .undef,v=>v=undef
 | .lit u,v=>v=u/\u.oneCell'=true
 | .sl cs n,v=>∃ a cap vs,v=.slice a n cap/\n<=cap/\bu m cs vs/\(vs≠[]->∃ b o,a=some ⟨b,o,none⟩/\∀ i u,vs[i]?=some u->m b (o+i)=some u)
 | .ref cs,v=>∃ b o vs,v=.pointer (some ⟨b,o,none⟩)/\bu m cs vs/\∀ i u,vs[i]?=some u->m b (o+i)=some u
 | .fn f caps,v=>∃ vs:List Value,v=.func (.func f) #[] vs.toArray/\bu m caps vs
 | .agg cs,v=>∃ vs:List Value,v=.agg vs.toArray/\(∀ u∈vs,u.oneCell'=true)/\bu m cs vs
 | .tup cs,v=>∃ vs:List Value,v=.tuple vs.toArray/\bu m cs vs
 | .ifc t c,v=>∃ u,v=.iface t u/\Rep m c u
def bu(m:Mem):List C->List Value->Prop
 | [],vs=>vs=[]
 | c::cs,vs=>∃ v r,vs=v::r/\Rep m c v/\bu m cs r
end
def Mem.le(m m':Mem):Prop:=∀ b o v,m b o=some v->m' b o=some v
theorem Mem.le_refl(m:Mem):m.le m:=λ_ _ _ h=>h
theorem Mem.le_trans{a b c:Mem}(h:a.le b)(h':b.le c):a.le c:=λ_ _ _ x=>h' _ _ _ (h _ _ _ x)
theorem Rep.mono{m m':Mem}(h:m.le m'):∀ (c:C) (v:Value),Rep m c v->Rep m' c v :=
 C.rec (motive_1:=λc=>∀ v,Rep m c v->Rep m' c v) (motive_2:=λcs=>∀ vs,bu m cs vs->bu m' cs vs)
  (λ_ _=>by simp[Rep]) (λ_ h=>by simpa [Rep] using h) (λ_ _ h=>by simpa [Rep] using h)
  (λcs n ih v=>by
   simp only[Rep]
   rintro⟨a,cap,vs,rfl,hn,hl,hm⟩
   exact⟨a,cap,vs,rfl,hn,ih _ hl,λhne=>by
    obtain⟨b,o,ha,hc⟩:=hm hne
    exact⟨b,o,ha,λi u hu=>h _ _ _ (hc i u hu)⟩⟩)
  (λcs ih v=>by
   simp only[Rep]
   rintro⟨b,o,vs,rfl,hl,hm⟩
   exact⟨b,o,vs,rfl,ih _ hl,λi u hu=>h _ _ _ (hm i u hu)⟩)
  (λf cs ih v=>by simp only[Rep];rintro⟨vs,rfl,hl⟩;exact⟨vs,rfl,ih _ hl⟩)
  (λcs ih v=>by simp only[Rep];rintro⟨vs,rfl,h1,hl⟩;exact⟨vs,rfl,h1,ih _ hl⟩)
  (λcs ih v=>by simp only[Rep];rintro⟨vs,rfl,hl⟩;exact⟨vs,rfl,ih _ hl⟩)
  (λt c ih v=>by simp only[Rep];rintro⟨u,rfl,h⟩;exact⟨u,rfl,ih _ h⟩)
  (λvs h=>by simpa [bu] using h)
  (λc cs ih1 ih2 vs=>by simp only[bu];rintro⟨v,r,rfl,h1,h2⟩;exact⟨v,r,rfl,ih1 _ h1,ih2 _ h2⟩)
theorem bu.mono{m m':Mem}(h:m.le m'):∀ (cs:List C) (vs:List Value),bu m cs vs->bu m' cs vs
 | [],vs,hh=>by simpa [bu] using hh
 | c::cs,vs,hh=>by
  simp only[bu] at hh ⊢
  obtain⟨v,r,rfl,h1,h2⟩:=hh
  exact⟨v,r,rfl,Rep.mono h _ _ h1,bu.mono h _ _ h2⟩
theorem bu.length{m:Mem}:∀ {cs:List C} {vs:List Value},bu m cs vs->vs.length=cs.length
 | [],vs,h=>by simp only[bu] at h;simp[h]
 | c::cs,vs,h=>by
  simp only[bu] at h
  obtain⟨v,r,rfl,_,h2⟩:=h
  simp[bu.length h2]
theorem bu.get{m:Mem}:∀ {cs:List C} {vs:List Value},bu m cs vs->∀ (i:Nat) (c:C),cs[i]?=some c->∃ v,vs[i]?=some v/\Rep m c v
 | [],vs,h,i,c,hc=>by simp at hc
 | d::cs,vs,h,i,c,hc=>by
  simp only[bu] at h
  obtain⟨v,r,rfl,h1,h2⟩:=h
  cases i with
  | zero=>simp at hc;subst hc;exact⟨v,by simp,h1⟩
  | succ i=>simp at hc;simpa using bu.get h2 i c hc
theorem bu.drop{m:Mem}:∀ (k:Nat) {cs:List C} {vs:List Value},bu m cs vs->bu m (cs.drop k) (vs.drop k)
 | 0,cs,vs,h=>by simpa using h
 | k+1,[],vs,h=>by simp only[bu] at h;subst h;simp[bu]
 | k+1,c::cs,vs,h=>by
  simp only[bu] at h
  obtain⟨v,r,rfl,_,h2⟩:=h
  simpa using bu.drop k h2
theorem bu.take{m:Mem}:∀ (k:Nat) {cs:List C} {vs:List Value},bu m cs vs->bu m (cs.take k) (vs.take k)
 | 0,cs,vs,h=>by simp[bu]
 | k+1,[],vs,h=>by simp only[bu] at h;subst h;simp[bu]
 | k+1,c::cs,vs,h=>by
  simp only[bu] at h
  obtain⟨v,r,rfl,h1,h2⟩:=h
  simp only[adC,bu]
  exact⟨v,r.take k,rfl,h1,bu.take k h2⟩
theorem bu.append{m:Mem}:∀ {cs ds:List C} {vs us:List Value},bu m cs vs->bu m ds us->bu m (cs++ds) (vs++us)
 | [],ds,vs,us,h,h'=>by simp only[bu] at h;subst h;simpa using h'
 | c::cs,ds,vs,us,h,h'=>by
  simp only[bu] at h
  obtain⟨v,r,rfl,h1,h2⟩:=h
  simp only[cQ,bu]
  exact⟨v,r++us,rfl,h1,bu.append h2 h'⟩
abbrev Own:=Tk->Option (Value×Nat×Nat×Nat)
structure Know where
 m:Mem
 μ:Nat->Option Nat
mutual
def aE(k:Know)(ow:Own):X->Value->Prop
 | .of c,v=>Rep k.m c v
 | .nil,v=>v=.slice none 0 0
 | .own t e z cs n,v=>ow t=some (v,e,z,n)/\cs.length=n*z/\Rep k.m (.sl cs n) v
 | .ptr r off,v=>∃ b,k.μ r=some b/\v=.pointer (some ⟨b,off,none⟩)
 | .mp r,v=>∃ b,k.μ r=some b/\v=.map (some b)
 | .clo f caps,v=>∃ vs:List Value,v=(if f % 2=0 then .func (.func (f / 2)) #[] vs.toArray else .func (.func (f / 2)) vs.toArray #[])/\aP k ow caps vs
 | .agg xs,v=>∃ vs:List Value,v=.agg vs.toArray/\(∀ u∈vs,u.oneCell'=true)/\aP k ow xs vs
 | .tup xs,v=>∃ vs:List Value,v=.tuple vs.toArray/\aP k ow xs vs
 | .nw none _ _,_=>True
 | .nw (some t) ty z,v=>∃ b,v=.pointer (some ⟨b,0,none⟩)/\ow t=some (.slice (some ⟨b,0,none⟩) 0 1,ty,z,0)
 | .top r e z,v=>ow (abq r)=some (v,e,z,1)/\∃ b cap,k.μ r=some b/\v=.slice (some ⟨b,0,none⟩) 1 cap
def aP(k:Know)(ow:Own):List X->List Value->Prop
 | [],vs=>vs=[]
 | x::xs,vs=>∃ v r,vs=v::r/\aE k ow x v/\aP k ow xs r
end
def Know.le(k k':Know):Prop:=k.m.le k'.m/\∀ r b,k.μ r=some b->k'.μ r=some b
theorem Know.le_refl(k:Know):k.le k:=⟨λ_ _ _ h=>h,λ_ _ h=>h⟩
theorem Know.le_trans{a b c:Know}(h:a.le b)(h':b.le c):a.le c:=⟨Mem.le_trans h.1 h'.1,λ_ _ x=>h'.2 _ _ (h.2 _ _ x)⟩
def Own.sub(ow ow':Own):Prop:=∀ t p,ow t=some p->ow' t=some p
theorem aE.mono{k k':Know}{ow ow':Own}(h:k.le k')(ho:ow.sub ow'):∀ (x:X) (v:Value),aE k ow x v->aE k' ow' x v :=
 X.rec (motive_1:=λx=>∀ v,aE k ow x v->aE k' ow' x v) (motive_2:=λxs=>∀ vs,aP k ow xs vs->aP k' ow' xs vs)
  (λc v hh=>by simp only[aE] at hh ⊢;exact Rep.mono h.1 _ _ hh)
  (λv hh=>by simpa only [aE] using hh)
  (λt e z cs n v hh=>by simp only[aE] at hh ⊢;exact⟨ho _ _ hh.1,hh.2.1,Rep.mono h.1 _ _ hh.2.2⟩)
  (λr off v hh=>by simp only[aE] at hh ⊢;obtain⟨b,hb,hv⟩:=hh;exact⟨b,h.2 _ _ hb,hv⟩)
  (λr v hh=>by simp only[aE] at hh ⊢;obtain⟨b,hb,hv⟩:=hh;exact⟨b,h.2 _ _ hb,hv⟩)
  (λf xs ih v hh=>by simp only[aE] at hh ⊢;obtain⟨vs,hv,hl⟩:=hh;exact⟨vs,hv,ih _ hl⟩)
  (λxs ih v hh=>by simp only[aE] at hh ⊢;obtain⟨vs,hv,h1,hl⟩:=hh;exact⟨vs,hv,h1,ih _ hl⟩)
  (λxs ih v hh=>by simp only[aE] at hh ⊢;obtain⟨vs,hv,hl⟩:=hh;exact⟨vs,hv,ih _ hl⟩)
  (λo ty z v hh=>by
   cases o with
   | none=>simp[aE]
   | some t=>simp only[aE] at hh ⊢;obtain⟨b,hv,hl⟩:=hh;exact⟨b,hv,ho _ _ hl⟩)
  (λr e z v hh=>by simp only[aE] at hh ⊢;obtain⟨h1,b,cap,hb,hv⟩:=hh;exact⟨ho _ _ h1,b,cap,h.2 _ _ hb,hv⟩)
  (λvs hh=>by simpa only [aP] using hh)
  (λx xs ih1 ih2 vs hh=>by simp only[aP] at hh ⊢;obtain⟨v,r,hv,h1,h2⟩:=hh;exact⟨v,r,hv,ih1 _ h1,ih2 _ h2⟩)
theorem aP.mono{k k':Know}{ow ow':Own}(h:k.le k')(ho:ow.sub ow'):∀ (xs:List X) (vs:List Value),aP k ow xs vs->aP k' ow' xs vs
 | [],vs,hh=>by simpa only [aP] using hh
 | x::xs,vs,hh=>by
  simp only[aP] at hh ⊢
  obtain⟨v,r,hv,h1,h2⟩:=hh
  exact⟨v,r,hv,aE.mono h ho _ _ h1,aP.mono h ho _ _ h2⟩
def Own.del(ow:Own)(t:Tk):Own:=λt'=>if t'=t then none else ow t'
theorem aE.drop{k:Know}{ow:Own}(t:Tk)(hrow:t.isRow=false):∀ (x:X) (v:Value),aE k ow x v->aE k (ow.del t) (x.drop t) v :=
 X.rec (motive_1:=λx=>∀ v,aE k ow x v->aE k (ow.del t) (x.drop t) v) (motive_2:=λxs=>∀ vs,aP k ow xs vs->aP k (ow.del t) (X.drops t xs) vs)
  (λc v hh=>by simpa only [X.drop,aE] using hh)
  (λv hh=>by simpa only [X.drop,aE] using hh)
  (λt' e z cs n v hh=>by
   simp only[X.drop]
   split
   .simp only[aE] at hh ⊢;exact hh.2.2
   .rename_i hne
    simp only[aE] at hh ⊢
    exact⟨by simp only[Own.del,hne,av];exact hh.1,hh.2⟩)
  (λr off v hh=>by simpa only [X.drop,aE] using hh)
  (λr v hh=>by simpa only [X.drop,aE] using hh)
  (λf xs ih v hh=>by simp only[X.drop,aE] at hh ⊢;obtain⟨vs,hv,hl⟩:=hh;exact⟨vs,hv,ih _ hl⟩)
  (λxs ih v hh=>by simp only[X.drop,aE] at hh ⊢;obtain⟨vs,hv,h1,hl⟩:=hh;exact⟨vs,hv,h1,ih _ hl⟩)
  (λxs ih v hh=>by simp only[X.drop,aE] at hh ⊢;obtain⟨vs,hv,hl⟩:=hh;exact⟨vs,hv,ih _ hl⟩)
  (λo ty z v hh=>by
   cases o with
   | none=>simp[X.drop,agd,aE]
   | some t' =>
    simp only[X.drop,agd]
    split
    .simp[aE]
    .rename_i hne
     simp only[aE] at hh ⊢
     obtain⟨b,hv,hl⟩:=hh
     exact⟨b,hv,by simp only[Own.del,hne,av];exact hl⟩)
  (λr e z v hh=>by
   have hne:¬ abq r=t:=λe=>by subst e;simp[Tk.isRow] at hrow
   simp only[X.drop,aE] at hh ⊢
   exact⟨by simp only[Own.del,hne,av];exact hh.1,hh.2⟩)
  (λvs hh=>by simpa only [X.drops,aP] using hh)
  (λx xs ih1 ih2 vs hh=>by simp only[X.drops,aP] at hh ⊢;obtain⟨v,r,hv,h1,h2⟩:=hh;exact⟨v,r,hv,ih1 _ h1,ih2 _ h2⟩)
theorem aP.drop{k:Know}{ow:Own}(t:Tk)(hrow:t.isRow=false):∀ (xs:List X) (vs:List Value),aP k ow xs vs->aP k (ow.del t) (X.drops t xs) vs
 | [],vs,hh=>by simpa only [X.drops,aP] using hh
 | x::xs,vs,hh=>by
  simp only[X.drops,aP] at hh ⊢
  obtain⟨v,r,hv,h1,h2⟩:=hh
  exact⟨v,r,hv,aE.drop t hrow _ _ h1,aP.drop t hrow _ _ h2⟩
theorem aP.length{k:Know}{ow:Own}:∀ {xs:List X} {vs:List Value},aP k ow xs vs->vs.length=xs.length
 | [],vs,h=>by simp only[aP] at h;simp[h]
 | c::cs,vs,h=>by
  simp only[aP] at h
  obtain⟨v,r,rfl,_,h2⟩:=h
  simp[aP.length h2]
theorem aP.get{k:Know}{ow:Own}:∀ {xs:List X} {vs:List Value},aP k ow xs vs->∀ (i:Nat) (x:X),xs[i]?=some x->∃ v,vs[i]?=some v/\aE k ow x v
 | [],vs,h,i,c,hc=>by simp at hc
 | d::cs,vs,h,i,c,hc=>by
  simp only[aP] at h
  obtain⟨v,r,rfl,h1,h2⟩:=h
  cases i with
  | zero=>simp at hc;subst hc;exact⟨v,by simp,h1⟩
  | succ i=>simp at hc;simpa using aP.get h2 i c hc
theorem aP.dropN{k:Know}{ow:Own}:∀ (n:Nat) {xs:List X} {vs:List Value},aP k ow xs vs->aP k ow (xs.drop n) (vs.drop n)
 | 0,cs,vs,h=>by simpa using h
 | n+1,[],vs,h=>by simp only[aP] at h;subst h;simp[aP]
 | n+1,c::cs,vs,h=>by
  simp only[aP] at h
  obtain⟨v,r,rfl,_,h2⟩:=h
  simpa using aP.dropN n h2
theorem aP.takeN{k:Know}{ow:Own}:∀ (n:Nat) {xs:List X} {vs:List Value},aP k ow xs vs->aP k ow (xs.take n) (vs.take n)
 | 0,cs,vs,h=>by simp[aP]
 | n+1,[],vs,h=>by simp only[aP] at h;subst h;simp[aP]
 | n+1,c::cs,vs,h=>by
  simp only[aP] at h
  obtain⟨v,r,rfl,h1,h2⟩:=h
  simp only[adC,aP]
  exact⟨v,r.take n,rfl,h1,aP.takeN n h2⟩
theorem aP.append{k:Know}{ow:Own}:∀ {cs ds:List X} {vs us:List Value},aP k ow cs vs->aP k ow ds us->aP k ow (cs++ds) (vs++us)
 | [],ds,vs,us,h,h'=>by simp only[aP] at h;subst h;simpa using h'
 | c::cs,ds,vs,us,h,h'=>by
  simp only[aP] at h
  obtain⟨v,r,rfl,h1,h2⟩:=h
  simp only[cQ,aP]
  exact⟨v,r++us,rfl,h1,aP.append h2 h'⟩
theorem aP.of{k:Know}{ow:Own}:∀ {cs:List C} {vs:List Value},bu k.m cs vs->aP k ow (cs.map .of) vs
 | [],vs,h=>by simpa [bu,aP] using h
 | c::cs,vs,h=>by
  simp only[bu] at h
  obtain⟨v,r,rfl,h1,h2⟩:=h
  simp only[bc,aP,aE]
  exact⟨v,r,rfl,h1,aP.of h2⟩
def af2{k:Know}{ow:Own}:∀ (x:X) (c:C) (v:Value),x.rd=some c->aE k ow x v->Rep k.m c v :=
 X.rec (motive_1:=λx=>∀ c v,x.rd=some c->aE k ow x v->Rep k.m c v) (motive_2:=λxs=>∀ cs vs,X.rds xs=some cs->aP k ow xs vs->bu k.m cs vs)
  (λc c' v hr hh=>by simp only[X.rd,ab] at hr;subst hr;simpa only [aE] using hh)
  (λc' v hr hh=>by
   simp only[X.rd,ab] at hr
   subst hr
   simp only[aE] at hh
   subst hh
   simp only[Rep]
   exact⟨none,0,[],rfl,ae _,by simp[bu],λh=>absurd rfl h⟩)
  (λt e z cs n c' v hr hh=>by
   simp only[X.rd,ab] at hr
   subst hr
   simp only[aE] at hh
   exact hh.2.2)
  (λr off c' v hr hh=>by simp[X.rd] at hr)
  (λr c' v hr hh=>by simp[X.rd] at hr)
  (λf xs ih c' v hr hh=>by simp[X.rd] at hr)
  (λxs ih c' v hr hh=>by
   simp only[X.rd,ap] at hr
   obtain⟨cs,hcs,rfl⟩:=hr
   simp only[aE] at hh
   obtain⟨vs,rfl,h1,hl⟩:=hh
   simp only[Rep]
   exact⟨vs,rfl,h1,ih _ _ hcs hl⟩)
  (λxs ih c' v hr hh=>by simp[X.rd] at hr)
  (λt ty z c' v hr hh=>by simp[X.rd] at hr)
  (λr e z c' v hr hh=>by simp[X.rd] at hr)
  (λcs vs hr hh=>by
   simp only[X.rds,ab] at hr
   subst hr
   simpa only [aP,bu] using hh)
  (λx xs ih1 ih2 cs vs hr hh=>by
   simp only[X.rds] at hr
   split at hr
   .rename_i c cs' h1 h2
    simp only[ab] at hr
    subst hr
    simp only[aP] at hh
    obtain⟨v,r,rfl,hv,hl⟩:=hh
    simp only[bu]
    exact⟨v,r,rfl,ih1 _ _ h1 hv,ih2 _ _ h2 hl⟩
   .cases hr)
theorem aj2{k:Know}{ow:Own}:∀ (xs:List X) (cs:List C) (vs:List Value),X.rds xs=some cs->aP k ow xs vs->bu k.m cs vs
 | [],cs,vs,hr,hh=>by
  simp only[X.rds,ab] at hr
  subst hr
  simpa only [aP,bu] using hh
 | x::xs,cs,vs,hr,hh=>by
  simp only[X.rds] at hr
  split at hr
  .rename_i c cs' h1 h2
   simp only[ab] at hr
   subst hr
   simp only[aP] at hh
   obtain⟨v,r,rfl,hv,hl⟩:=hh
   simp only[bu]
   exact⟨v,r,rfl,af2 _ _ _ h1 hv,aj2 _ _ _ h2 hl⟩
  .cases hr
def aeE{k:Know}{ow:Own}{x:X}{xs:List X}{v:Value}(hc:cn x=some xs)(h:aE k ow x v) :
  aP k ow xs v.cells.toList/\∀ u∈v.cells.toList,u.oneCell'=true:=by
 have single:∀ (x:X),aE k ow x v->v.oneCell'=true->aP k ow [x] v.cells.toList/\∀ u∈v.cells.toList,u.oneCell'=true:=by
  intro x hx h1
  have:v.cells=#[v]:=by cases v <;> simp_all [Value.cells,Value.oneCell']
  rw[this]
  simp only[aP]
  exact⟨⟨v,[],rfl,hx,rfl⟩,by simpa using h1⟩
 cases x with
 | of c =>
  cases c with
  | any=>simp[cn] at hc
  | undef=>simp[cn] at hc
  | tup cs=>simp[cn] at hc
  | agg cs =>
   simp only[cn,ab] at hc
   subst hc
   simp only[aE,Rep] at h
   obtain⟨vs,rfl,h1,hl⟩:=h
   exact⟨by simpa [Value.cells] using aP.of hl,by simpa [Value.cells] using h1⟩
  | ifc t c =>
   simp only[cn,ab] at hc
   subst hc
   exact single _ h (by simp only[aE,Rep] at h;obtain⟨u,rfl,_⟩:=h;rfl)
  | lit u =>
   simp only[cn,ab] at hc
   subst hc
   exact single _ h (by simp only[aE,Rep] at h;rw[h.1];exact h.2)
  | sl cs n =>
   simp only[cn,ab] at hc
   subst hc
   exact single _ h (by simp only[aE,Rep] at h;obtain⟨a,cap,vs,rfl,_⟩:=h;rfl)
  | ref cs =>
   simp only[cn,ab] at hc
   subst hc
   exact single _ h (by simp only[aE,Rep] at h;obtain⟨a,cap,vs,rfl,_⟩:=h;rfl)
  | fn f cs =>
   simp only[cn,ab] at hc
   subst hc
   exact single _ h (by simp only[aE,Rep] at h;obtain⟨vs,rfl,_⟩:=h;rfl)
 | nil =>
  simp only[cn,ab] at hc
  subst hc
  exact single _ h (by simp only[aE] at h;subst h;rfl)
 | own t e z cs n =>
  simp only[cn,ab] at hc
  subst hc
  exact single _ h (by simp only[aE,Rep] at h;obtain⟨_,_,a,cap,vs,rfl,_⟩:=h;rfl)
 | ptr r off =>
  simp only[cn,ab] at hc
  subst hc
  exact single _ h (by simp only[aE] at h;obtain⟨b,_,rfl⟩:=h;rfl)
 | mp r =>
  simp only[cn,ab] at hc
  subst hc
  exact single _ h (by simp only[aE] at h;obtain⟨b,_,rfl⟩:=h;rfl)
 | clo f caps =>
  simp only[cn,ab] at hc
  subst hc
  exact single _ h (by simp only[aE] at h;obtain⟨b,rfl,_⟩:=h;split <;> rfl)
 | agg xs =>
  simp only[cn,ab] at hc
  subst hc
  simp only[aE] at h
  obtain⟨vs,rfl,h1,hl⟩:=h
  exact⟨by simpa [Value.cells] using hl,by simpa [Value.cells] using h1⟩
 | tup xs=>simp[cn] at hc
 | nw t ty z=>simp[cn] at hc
 | top r e z =>
  simp only[cn,ab] at hc
  subst hc
  exact single _ h (by simp only[aE] at h;obtain⟨_,b,cap,_,rfl⟩:=h;rfl)
structure Ren (σ:Nat->Option Nat) (ρ:Tk->Option Tk) (k k':Know) (ow ow':Own):Prop where
 m:k.m.le k'.m
 μ:∀ r b r',k.μ r=some b->σ r=some r'->k'.μ r'=some b
 ow:∀ t p t',ow t=some p->ρ t=some t'->ow' t'=some p
theorem aE.tr{σ:Nat->Option Nat}{ρ:Tk->Option Tk}{k k':Know}{ow ow':Own}(h:Ren σ ρ k k' ow ow'):∀ (x:X) (v:Value),aE k ow x v->aE k' ow' (x.tr σ ρ) v :=
 X.rec (motive_1:=λx=>∀ v,aE k ow x v->aE k' ow' (x.tr σ ρ) v) (motive_2:=λxs=>∀ vs,aP k ow xs vs->aP k' ow' (X.trs σ ρ xs) vs)
  (λc v hh=>by simp only[aE,X.tr] at hh ⊢;exact Rep.mono h.m _ _ hh)
  (λv hh=>by simpa only [aE,X.tr] using hh)
  (λt e z cs n v hh=>by
   simp only[aE,X.tr] at hh ⊢
   split
   .rename_i t' ht
    simp only[aE]
    exact⟨h.ow _ _ _ hh.1 ht,hh.2.1,Rep.mono h.m _ _ hh.2.2⟩
   .simp only[aE];exact Rep.mono h.m _ _ hh.2.2)
  (λr off v hh=>by
   simp only[aE,X.tr] at hh ⊢
   obtain⟨b,hb,hv⟩:=hh
   split
   .rename_i r' hr;simp only[aE];exact⟨b,h.μ _ _ _ hb hr,hv⟩
   .simp[aE,Rep])
  (λr v hh=>by
   simp only[aE,X.tr] at hh ⊢
   obtain⟨b,hb,hv⟩:=hh
   split
   .rename_i r' hr;simp only[aE];exact⟨b,h.μ _ _ _ hb hr,hv⟩
   .simp[aE,Rep])
  (λf xs ih v hh=>by simp only[aE,X.tr] at hh ⊢;obtain⟨vs,hv,hl⟩:=hh;exact⟨vs,hv,ih _ hl⟩)
  (λxs ih v hh=>by simp only[aE,X.tr] at hh ⊢;obtain⟨vs,hv,h1,hl⟩:=hh;exact⟨vs,hv,h1,ih _ hl⟩)
  (λxs ih v hh=>by simp only[aE,X.tr] at hh ⊢;obtain⟨vs,hv,hl⟩:=hh;exact⟨vs,hv,ih _ hl⟩)
  (λo ty z v hh=>by
   cases o with
   | none=>simp[X.tr,aE]
   | some t =>
    simp only[aE] at hh
    obtain⟨b,hv,hl⟩:=hh
    show aE k' ow' (.nw (ρ t) ty z) v
    cases ht:ρ t with
    | none=>simp[aE]
    | some t'=>simp only[aE];exact⟨b,hv,h.ow _ _ _ hl ht⟩)
  (λr e z v hh=>by
   simp only[aE] at hh
   obtain⟨h1,b,cap,hb,hv⟩:=hh
   simp only[X.tr]
   split
   .rename_i r' hr
    split
    .rename_i ht
     simp only[aE]
     exact⟨h.ow _ _ _ h1 ht,b,cap,h.μ _ _ _ hb hr,hv⟩
    .simp[aE,Rep]
   .simp[aE,Rep])
  (λvs hh=>by simpa only [aP,X.trs] using hh)
  (λx xs ih1 ih2 vs hh=>by simp only[aP,X.trs] at hh ⊢;obtain⟨v,r,hv,h1,h2⟩:=hh;exact⟨v,r,hv,ih1 _ h1,ih2 _ h2⟩)
theorem aP.tr{σ:Nat->Option Nat}{ρ:Tk->Option Tk}{k k':Know}{ow ow':Own}(h:Ren σ ρ k k' ow ow'):∀ (xs:List X) (vs:List Value),aP k ow xs vs->aP k' ow' (X.trs σ ρ xs) vs
 | [],vs,hh=>by simpa only [aP,X.trs] using hh
 | x::xs,vs,hh=>by
  simp only[aP,X.trs] at hh ⊢
  obtain⟨v,r,hv,h1,h2⟩:=hh
  exact⟨v,r,hv,aE.tr h _ _ h1,aP.tr h _ _ h2⟩
theorem adq{α:Type}[DecidableEq α]:∀ {l:List α} {a:α} {i:Nat},pos l a=some i->l[i]?=some a
 | [],a,i,h=>by simp[pos] at h
 | b::l,a,i,h=>by
  simp only[pos] at h
  split at h
  .rename_i e
   simp only[ab] at h
   subst h;subst e
   rfl
  .simp only[ap] at h
   obtain⟨j,hj,rfl⟩:=h
   simpa using adq hj
theorem apK{α:Type}[DecidableEq α]:∀ {l:List α} {a:α},pos l a=none->a∉l
 | [],a,_=>by simp
 | b::l,a,h=>by
  simp only[pos] at h
  split at h
  .cases h
  .rename_i e
   simp only[Option.map_eq_none_iff] at h
   have:=apK h
   simp only[bj,af9]
   exact⟨λe'=>e e'.symm,this⟩
theorem akT{α:Type}[DecidableEq α]:∀ (l seen:List α),seen.Nodup->(nub l seen).Nodup
 | [],seen,h=>h
 | a::l,seen,h=>by
  simp only[nub]
  split
  .exact akT l seen h
  .rename_i hn
   refine akT l _ ?_
   rw[List.nodup_append]
   exact⟨h,by simp,λx hx y hy=>by simp at hy;subst hy;exact λe=>hn (e▸hx)⟩
theorem aiu(objs:List Ob):∀ (n:Nat) (todo seen:List Nat),seen.Nodup->(dQ objs n todo seen).Nodup
 | 0,_,seen,h=>h
 | _+1,[],seen,h=>h
 | n+1,r::todo,seen,h=>by
  simp only[dQ]
  split
  .exact aiu objs n todo seen h
  .rename_i hn
   refine aiu objs n _ _ ?_
   rw[List.nodup_append]
   exact⟨h,by simp,λx hx y hy=>by simp at hy;subst hy;exact λe=>hn (e▸hx)⟩
theorem ak9(objs:List Ob):∀ (n:Nat) (todo seen:List Nat),∃ q,dQ objs n todo seen=seen++q
 | 0,_,seen=>⟨[],by simp[dQ]⟩
 | _+1,[],seen=>⟨[],by simp[dQ]⟩
 | n+1,r::todo,seen=>by
  simp only[dQ]
  split
  .exact ak9 objs n todo seen
  .obtain⟨q,hq⟩:=ak9 objs n (((objs[r]?).map Ob.refs).getD []++todo) (seen++[r])
   exact⟨r::q,by rw[hq];simp⟩
structure GP where
 holds:World->Prop
 blk:Nat->Prop
 keep:∀ w w',holds w->(∀ b,blk b->w'.heap[b]?=w.heap[b]?)->holds w'
structure Base where
 G:GP
 m:Mem
 mod:Nat->Prop
structure Keeps (M:Nat->Prop) (w w':World):Prop where
 os:w'.os=w.os
 tape:w'.tape=w.tape
 output:w'.output=w.output
 size:w.heap.size<=w'.heap.size
 block:∀ b,b<w.heap.size->¬ M b->w'.heap[b]?=w.heap[b]?
theorem Keeps.refl(M:Nat->Prop)(w:World):Keeps M w w:=⟨rfl,rfl,rfl,ae _,λ_ _ _=>rfl⟩
theorem Keeps.trans{M:Nat->Prop}{a b c:World}(h:Keeps M a b)(h':Keeps M b c):Keeps M a c :=
 ⟨h'.os.trans h.os,h'.tape.trans h.tape,h'.output.trans h.output,fx h.size h'.size,λx hx hm=>(h'.block x (cq hx h.size) hm).trans (h.block x hx hm)⟩
theorem Keeps.below{M:Nat->Prop}{w w':World}(h:Below w.heap.size w w'):Keeps M w w':=⟨h.os,h.tape,h.output,h.size,λb hb _=>h.block b hb⟩
def agq(M:Nat->Prop)(w0:World)(b:Nat):Prop:=w0.heap.size<=b\/M b
def ady(k:Know)(ow:Own)(w:World)(b:Nat):Ob->Prop
 | .var ty xs=>∃ (vs:List Value),w.heap[b]?=some (.cells vs.toArray ty (0,0))/\(∀ u∈vs,u.oneCell'=true)/\aP k ow xs vs
 | .map es=>∃ (ms:Array MapEntry) (cl:Nat),w.heap[b]?=some (.map ms cl)/\ms.toList.map (·.key)=es.map (·.1)/\bu k.m (es.map (·.2)) (ms.toList.map (·.val))
 | .row ty cs=>cs=[]\/∃ (vs sp:List Value),w.heap[b]?=some (.cells (vs++sp).toArray ty (0,0))/\(∀ u∈vs,u.oneCell'=true)/\bu k.m cs vs
def Liv(objs:List Ob)(r:Nat):Prop:=∃ ob,objs[r]?=some ob/\ob.live=true
def fG(objs:List Ob)(n r:Nat):Prop:=∃ ty cs,objs[r]?=some (.row ty cs)/\cs.length<=n
def acn(σ:Nat->Option Nat)(ρ:Tk->Option Tk)(o:Ob):(o.tr σ ρ).live=o.live:=by cases o <;> rfl
def ahg(t:Tk)(o:Ob):(o.drop t).live=o.live:=by cases o <;> rfl
def adG{f:Ob->Ob}(hf:∀ o,(f o).live=o.live){objs:List Ob}{r:Nat}(h:Liv (objs.map f) r):Liv objs r:=by
 obtain⟨ob,h1,h2⟩:=h
 rw[bp,ap] at h1
 obtain⟨o,h3,rfl⟩:=h1
 exact⟨o,h3,by rw[← hf];exact h2⟩
def afy{f:Ob->Ob}(hf:∀ ty cs,f (.row ty cs)=.row ty cs){objs:List Ob}{n r:Nat}(h:fG objs n r):fG (objs.map f) n r:=by
 obtain⟨ty,cs,h1,h2⟩:=h
 exact⟨ty,cs,by rw[bp,h1];exact congrArg some (hf ty cs),h2⟩
def ahy{objs:List Ob}{r:Nat}(h:fG objs 0 r):¬ Liv objs r:=by
 obtain⟨ty,cs,h1,h2⟩:=h
 rintro⟨ob,h3,h4⟩
 obtain rfl:=ay (h1.symm.trans h3)
 have:cs=[]:=bP aC
 subst this
 cases h4
theorem fG.mono{objs:List Ob}{n m r:Nat}(h:fG objs n r)(hn:n<=m):fG objs m r:=by
 obtain⟨ty,cs,h1,h2⟩:=h
 exact⟨ty,cs,h1,fx h2 hn⟩
def ajP{objs:List Ob}{n r:Nat}{ob:Ob}(h:objs[r]?=some ob)(hn:∀ ty cs,ob≠.row ty cs):¬ fG objs n r:=by
 rintro⟨ty,cs,h1,_⟩
 exact hn ty cs (ay (h.symm.trans h1))
theorem ady.dead{k:Know}{ow:Own}{w:World}{b:Nat}{ob:Ob}(h:ob.live=false):ady k ow w b ob:=by
 cases ob with
 | var ty xs=>cases h
 | map es=>cases h
 | row ty cs=>cases cs with
  | nil=>exact .inl rfl
  | cons c cs=>cases h
def amB{objs:List Ob}{r:Nat}{ob:Ob}(h:objs[r]?=some ob)(hn:¬ Liv objs r):ob.live=false:=by
 cases hl:ob.live with
 | false=>rfl
 | true=>exact absurd ⟨ob,h,hl⟩ hn
def aej{objs l:List Ob}{r:Nat}(h:Liv (objs++l) r)(hr:r<objs.length):Liv objs r:=by
 obtain⟨ob,h1,h2⟩:=h
 rw[aZ hr] at h1
 exact⟨ob,h1,h2⟩
def aJ4{objs:List Ob}{n r:Nat}(h:fG objs n r):r<objs.length:=by
 obtain⟨ty,cs,h1,_⟩:=h
 exact (List.getElem?_eq_some_iff.1 h1).1
def akP{objs l:List Ob}{n r:Nat}(h:fG objs n r):fG (objs++l) n r:=by
 have hr:=aJ4 h
 obtain⟨ty,cs,h1,h2⟩:=h
 exact⟨ty,cs,by rw[aZ hr];exact h1,h2⟩
def asS{objs:List Ob}{r r':Nat}{ob:Ob}(hne:r'≠r)(h:Liv (objs.set r ob) r'):Liv objs r':=by
 obtain⟨o,h1,h2⟩:=h
 rw[dZ (bo hne)] at h1
 exact⟨o,h1,h2⟩
def anu{objs:List Ob}{n r r':Nat}{ob:Ob}(hne:r'≠r)(h:fG objs n r'):fG (objs.set r ob) n r':=by
 obtain⟨ty,cs,h1,h2⟩:=h
 exact⟨ty,cs,by rw[dZ (bo hne)];exact h1,h2⟩
def aye{objs:List Ob}{r:Nat}(hr:r<objs.length)(hn:¬ Liv objs r):fG objs 0 r:=by
 have h1:objs[r]?=some objs[r]:=aL hr
 generalize objs[r]=ob at h1
 have hl:=amB h1 hn
 cases ob with
 | var ty xs=>cases hl
 | map es=>cases hl
 | row ty cs=>cases cs with
  | nil=>exact⟨ty,[],h1,ae _⟩
  | cons c cs=>cases hl
structure Hp (M0:Base) (k:Know) (ow:Own) (w0 w:World) (objs:List Ob):Prop where
 good:M0.G.holds w0/\∀ b,M0.G.blk b->b<w0.heap.size/\¬ M0.mod b
 below:Keeps M0.mod w0 w
 mem:∀ b o v,k.m b o=some v->w.cell? ⟨b,o,none⟩=some v/\v.oneCell'=true
 obj:∀ r ob,objs[r]?=some ob->∃ b,k.μ r=some b/\agq M0.mod w0 b/\b<w.heap.size/\(ob.live=true->∀ o,k.m b o=none)/\ady k ow w b ob
 dom:∀ r b,k.μ r=some b->r<objs.length
 inj:∀ r r' b,k.μ r=some b->k.μ r'=some b->Liv objs r->Liv objs r'->r=r'
 tok:∀ t v e z n,ow t=some (v,e,z,n)->(∃ xs,w.ownsRow 0 e z v n xs)/\∀ g,v.ownBlock=some g->agq M0.mod w0 g/\(∀ o,n*z<=o->k.m g o=none)/\∀ r,k.μ r=some g->fG objs (n*z) r/\(Liv objs r->t=abq r)
 tokne:∀ t t' v e z n v' e' z' n',ow t=some (v,e,z,n)->ow t'=some (v',e',z',n')->t≠t'->∀ g,v.ownBlock=some g->v'.ownBlock≠some g
 m0:∀ b o v,k.m b o=some v->b<w0.heap.size->¬ M0.mod b->M0.m b o=some v
def Tk.older(clk:Nat)(done:Nat->Prop):Tk->Prop
 | .nm c ix _=>c<clk\/(c=clk/\done ix)
 | .cell ..=>True
structure Sim (M0:Base) (k:Know) (ow:Own) (done:Nat->Prop) (w0 w:World) (N:Nat) (s:S) (tmps:Array Value):Prop extends Hp M0 k ow w0 w s.objs where
 size:tmps.size=N
 fr:∀ j,aE k ow (s.fr j) (tmps.getD j undef)
 fresh:∀ t p,ow t=some p->t.older s.clk done
 cells:∀ r off p,ow (.cell r off)=some p->r<s.objs.length
def agt{k:Know}{w:World}(h:∀ b o v,k.m b o=some v->w.cell? ⟨b,o,none⟩=some v/\v.oneCell'=true){b o:Nat}{v:Value}(hm:k.m b o=some v):b<w.heap.size :=
 World.block_lt_of_cell? (a:=⟨b,o,none⟩) w (h _ _ _ hm).1
def acK{w w':World}{B e z:Nat}{v:Value}{n:Nat}{xs:List Value}(h:∀ g,v.ownBlock=some g->g<w.heap.size->w'.heap[g]?=w.heap[g]?)(ho:w.ownsRow B e z v n xs):w'.ownsRow B e z v n xs:=by
 refine⟨ho.1,?_⟩
 rcases ho.2 with h2|⟨g,cap,cur,hv,hg,hh,r⟩
 .exact .inl h2
 .exact .inr ⟨g,cap,cur,hv,hg,by rw[h g (by rw[hv];rfl) (Array.getElem?_eq_some_iff.1 hh).1];exact hh,r⟩
def aDj{w:World}{B e z:Nat}{v:Value}{n:Nat}{xs:List Value}(ho:w.ownsRow B e z v n xs){g:Nat}(hg:v.ownBlock=some g):g<w.heap.size:=(ho.lt g hg).2
theorem ady.keep{k:Know}{ow:Own}{w w':World}{b:Nat}{ob:Ob}(hb:w'.heap[b]?=w.heap[b]?)(h:ady k ow w b ob):ady k ow w' b ob:=by
 cases ob <;> simp only[ady,hb] at h ⊢ <;> exact h
theorem ady.mono{k k':Know}{ow ow':Own}{w:World}{b:Nat}{ob:Ob}(hk:k.le k')(ho:ow.sub ow')(h:ady k ow w b ob):ady k' ow' w b ob:=by
 cases ob with
 | var ty xs =>
  obtain⟨vs,h1,h2,h3⟩:=h
  exact⟨vs,h1,h2,aP.mono hk ho _ _ h3⟩
 | map es =>
  obtain⟨ms,cl,h1,h2,h3⟩:=h
  exact⟨ms,cl,h1,h2,bu.mono hk.1 _ _ h3⟩
 | row ty cs =>
  rcases h with h|⟨vs,sp,h1,h2,h3⟩
  .exact .inl h
  .exact .inr ⟨vs,sp,h1,h2,bu.mono hk.1 _ _ h3⟩
theorem ady.tr{σ:Nat->Option Nat}{ρ:Tk->Option Tk}{k k':Know}{ow ow':Own}(hn:Ren σ ρ k k' ow ow'){w:World}{b:Nat}{ob:Ob}(h:ady k ow w b ob):ady k' ow' w b (ob.tr σ ρ):=by
 cases ob with
 | var ty xs =>
  obtain⟨vs,h1,h2,h3⟩:=h
  exact⟨vs,h1,h2,aP.tr hn _ _ h3⟩
 | map es =>
  obtain⟨ms,cl,h1,h2,h3⟩:=h
  exact⟨ms,cl,h1,h2,bu.mono hn.m _ _ h3⟩
 | row ty cs =>
  rcases h with h|⟨vs,sp,h1,h2,h3⟩
  .exact .inl h
  .exact .inr ⟨vs,sp,h1,h2,bu.mono hn.m _ _ h3⟩
theorem ady.drop{k:Know}{ow:Own}{w:World}{b:Nat}{ob:Ob}(t:Tk)(hrow:t.isRow=false)(h:ady k ow w b ob):ady k (ow.del t) w b (ob.drop t):=by
 cases ob with
 | var ty xs =>
  obtain⟨vs,h1,h2,h3⟩:=h
  exact⟨vs,h1,h2,aP.drop t hrow _ _ h3⟩
 | map es=>exact h
 | row ty cs=>exact h
section
variable {M0:Base} {k:Know} {ow:Own} {done:Nat->Prop} {w0 w w':World} {N:Nat} {s:S} {tmps:Array Value} {ds:List Deferred} {objs:List Ob}
theorem Hp.lt(h:Hp M0 k ow w0 w objs){r b:Nat}(hr:k.μ r=some b):agq M0.mod w0 b/\b<w.heap.size/\(Liv objs r->∀ o,k.m b o=none):=by
 obtain⟨b',h2,h3,h4,h5,_⟩:=h.obj r _ (aL (h.dom r b hr))
 obtain rfl:=ay (h2.symm.trans hr)
 exact⟨h3,h4,fun⟨ob,g1,g2⟩=>h5 (by rw[aL (h.dom r b' hr)] at g1;obtain rfl:=ay g1;exact g2)⟩
theorem Hp.tlt(h:Hp M0 k ow w0 w objs){t:Tk}{v:Value}{e z n:Nat}(ht:ow t=some (v,e,z,n)){g:Nat}(hg:v.ownBlock=some g):agq M0.mod w0 g/\g<w.heap.size:=by
 obtain⟨⟨xs,h1⟩,h2⟩:=h.tok t v e z n ht
 exact⟨(h2 g hg).1,aDj h1 hg⟩
theorem Hp.table(h:Hp M0 k ow w0 w objs):M0.G.holds w:=M0.G.keep w0 w h.good.1 λb hb=>h.below.block b (h.good.2 b hb).1 (h.good.2 b hb).2
theorem Hp.grow(h:Hp M0 k ow w0 w objs)(hb:Below w.heap.size w w'):Hp M0 k ow w0 w' objs where
 good:=h.good
 below:=h.below.trans (.below hb)
 mem:=λb o v hm=>by
  obtain⟨h1,h2⟩:=h.mem b o v hm
  exact⟨(hb.cell (p:=⟨b,o,none⟩) (agt h.mem hm)).trans h1,h2⟩
 obj:=λr ob hr=>by
  obtain⟨b,h1,h2,h3,h4,h5⟩:=h.obj r ob hr
  exact⟨b,h1,h2,cq h3 hb.size,h4,h5.keep (hb.block b h3)⟩
 dom:=h.dom
 inj:=h.inj
 tok:=λt v e z n ht=>by
  obtain⟨⟨xs,h1⟩,h2⟩:=h.tok t v e z n ht
  exact⟨⟨xs,acK (λg _ hg=>hb.block g hg) h1⟩,h2⟩
 tokne:=h.tokne
 m0:=h.m0
theorem Sim.grow(h:Sim M0 k ow done w0 w N s tmps)(hb:Below w.heap.size w w'):Sim M0 k ow done w0 w' N s tmps :=
 {h.toHp.grow hb with size:=h.size,fr:=h.fr,fresh:=h.fresh,cells:=h.cells}
theorem Sim.put(h:Sim M0 k ow done w0 w N s tmps)(d:Option Nat)(hd:∀ j,d=some j->j<N){x:X}{v:Value}(hx:aE k ow x v) :
  Sim M0 k ow done w0 w N (s.put d x) (Act.put ⟨tmps,ds⟩ d v).tmps:=by
 cases d with
 | none=>exact h
 | some d =>
  have hlt:=hd d rfl
  refine {h.toHp with size:=by simp[Act.put,h.size],fr:=λj=>?_,fresh:=h.fresh,cells:=h.cells}
  simp only[S.put,upd,Act.put]
  by_cases hj:j=d
  .subst hj
   simp only[am]
   have:(tmps.setIfInBounds j v).getD j undef=v:=by simp[h.size,hlt]
   rw[this]
   exact hx
  .rw[ar hj]
   have:(tmps.setIfInBounds d v).getD j undef=tmps.getD j undef:=by
    simp[aaa (bo hj)]
   rw[this]
   exact h.fr j
theorem Sim.del(h:Sim M0 k ow done w0 w N s tmps)(t:Tk)(hrow:t.isRow=false):Sim M0 k (ow.del t) done w0 w N (s.drop (some t)) tmps where
 good:=h.good
 size:=h.size
 below:=h.below
 fr:=λj=>aE.drop t hrow _ _ (h.fr j)
 mem:=h.mem
 obj:=λr ob hr=>by
  simp only[S.drop,bp,ap] at hr
  obtain⟨ob',h1,rfl⟩:=hr
  obtain⟨b,h2,h3,h4,h5,h6⟩:=h.obj r ob' h1
  exact⟨b,h2,h3,h4,λhl=>h5 (by rw[← ahg t];exact hl),h6.drop t hrow⟩
 dom:=λr b hr=>by simpa [S.drop] using h.dom r b hr
 inj:=λr r' b hr hr' hl hl'=>h.inj r r' b hr hr' (adG (ahg t) hl) (adG (ahg t) hl')
 tok:=λt' v e z n ht=>by
  simp only[Own.del] at ht
  split at ht
  .cases ht
  .obtain⟨g1,g2⟩:=h.tok t' v e z n ht
   exact⟨g1,λg hg=>⟨(g2 g hg).1,(g2 g hg).2.1,λr hr=>⟨afy (λ_ _=>rfl) ((g2 g hg).2.2 r hr).1,λhl=>((g2 g hg).2.2 r hr).2 (adG (ahg t) hl)⟩⟩⟩
 tokne:=λt t' v e z n v' e' z' n' ht ht'=>by
  simp only[Own.del] at ht ht'
  split at ht
  .cases ht
  .split at ht'
   .cases ht'
   .exact h.tokne t t' v e z n v' e' z' n' ht ht'
 fresh:=λt' p ht=>by
  simp only[Own.del] at ht
  split at ht
  .cases ht
  .exact h.fresh t' p ht
 cells:=λr off p ht=>by
  simp only[Own.del] at ht
  split at ht
  .cases ht
  .simpa [S.drop] using h.cells r off p ht
 m0:=h.m0
def Own.add(ow:Own)(t:Tk)(p:Value×Nat×Nat×Nat):Own:=λt'=>if t'=t then some p else ow t'
theorem Own.sub_add{ow:Own}{t:Tk}{p:Value×Nat×Nat×Nat}(h:ow t=none):ow.sub (ow.add t p):=λt' q hq=>by
 simp only[Own.add]
 split
 .rename_i e;subst e;rw[h] at hq;cases hq
 .exact hq
theorem Sim.add(h:Sim M0 k ow done w0 w N s tmps){c ix i:Nat}{v:Value}{e z n:Nat}{xs:List Value}(hn:ow (.nm c ix i)=none)
  (hrow:w.ownsRow 0 e z v n xs) (hm:∀ g,v.ownBlock=some g->agq M0.mod w0 g/\(∀ o,n*z<=o->k.m g o=none)/\∀ r,k.μ r=some g->fG s.objs 0 r)
  (hne:∀ t' v' e' z' n',ow t'=some (v',e',z',n')->∀ g,v.ownBlock=some g->v'.ownBlock≠some g)
  (hf:c<s.clk\/(c=s.clk/\done ix)):Sim M0 k (ow.add (.nm c ix i) (v,e,z,n)) done w0 w N s tmps where
 good:=h.good
 size:=h.size
 below:=h.below
 fr:=λj=>aE.mono (Know.le_refl k) (Own.sub_add hn) _ _ (h.fr j)
 mem:=h.mem
 obj:=λr ob hr=>by
  obtain⟨b,h2,h3,h4,h5,h6⟩:=h.obj r ob hr
  exact⟨b,h2,h3,h4,h5,h6.mono (Know.le_refl k) (Own.sub_add hn)⟩
 dom:=h.dom
 inj:=h.inj
 tok:=λt' v' e' z' n' ht=>by
  simp only[Own.add] at ht
  split at ht
  .simp only[bD] at ht
   obtain⟨rfl,rfl,rfl,rfl⟩:=ht
   exact⟨⟨xs,hrow⟩,λg hg=>⟨(hm g hg).1,(hm g hg).2.1,λr hr=>⟨((hm g hg).2.2 r hr).mono (aU _),λhl=>absurd hl (ahy ((hm g hg).2.2 r hr))⟩⟩⟩
  .exact h.tok t' v' e' z' n' ht
 tokne:=λt1 t2 v1 e1 z1 n1 v2 e2 z2 n2 h1 h2 hne' g hg hg'=>by
  simp only[Own.add] at h1 h2
  split at h1
  .rename_i e1'
   simp only[bD] at h1
   obtain⟨rfl,rfl,rfl,rfl⟩:=h1
   split at h2
   .rename_i e2';exact hne' (e1'.trans e2'.symm)
   .exact hne _ _ _ _ _ h2 g hg hg'
  .split at h2
   .simp only[bD] at h2
    obtain⟨rfl,rfl,rfl,rfl⟩:=h2
    exact hne _ _ _ _ _ h1 g hg' hg
   .exact h.tokne t1 t2 _ _ _ _ _ _ _ _ h1 h2 hne' g hg hg'
 fresh:=λt' p ht=>by
  simp only[Own.add] at ht
  split at ht
  .rename_i e1;subst e1;exact hf
  .exact h.fresh t' p ht
 cells:=λr off p ht=>by
  simp only[Own.add] at ht
  split at ht
  .rename_i e1;cases e1
  .exact h.cells r off p ht
 m0:=h.m0
theorem Sim.more(h:Sim M0 k ow done w0 w N s tmps){done':Nat->Prop}(hd:∀ i,done i->done' i):Sim M0 k ow done' w0 w N s tmps :=
 {h.toHp with
  size:=h.size
  fr:=h.fr
  cells:=h.cells
  fresh:=λt p ht=>by
   have:=h.fresh t p ht
   cases t with
   | nm c ix i=>exact this.imp id (fun⟨a,b⟩=>⟨a,hd _ b⟩)
   | cell r off=>trivial}
theorem Sim.tick(h:Sim M0 k ow done w0 w N s tmps):Sim M0 k ow (λ_=>False) w0 w N {s with clk:=s.clk+1} tmps :=
 {h.toHp with
  size:=h.size
  fr:=h.fr
  cells:=h.cells
  fresh:=λt p ht=>by
   have:=h.fresh t p ht
   cases t with
   | nm c ix i =>
    refine .inl ?_
    rcases this with h|⟨h,_⟩ <;> simp only[] <;> omega
   | cell r off=>trivial}
theorem aMZ{m:Mem}{v:Value}{c:C}(h:aM0 v=some c):Rep m c v/\v.oneCell'=true:=by
 unfold aM0 at h
 split at h <;> cases h <;> simp[Rep,bu,Value.oneCell']
theorem ayf{m:Mem}:∀ {vs:List Value} {cs:List C},ayg vs=some cs->bu m cs vs/\∀ u∈vs,u.oneCell'=true
 | [],cs,h=>by
  simp only[ayg,ab] at h
  subst h
  exact⟨by simp[bu],by simp⟩
 | v::r,cs,h=>by
  simp only[ayg] at h
  split at h
  .rename_i c cs' h1 h2
   obtain rfl:=ay h
   obtain⟨g1,g2⟩:=aMZ (m:=m) h1
   obtain⟨g3,g4⟩:=ayf (m:=m) h2
   refine⟨by simp only[bu];exact⟨v,r,rfl,g1,g3⟩,λu hu=>?_⟩
   rcases bj.1 hu with rfl|hu
   .exact g2
   .exact g4 u hu
  .cases h
theorem aM1{m:Mem}(vs:Array Value):Rep m (aM2 vs.toList) (.agg vs):=by
 unfold aM2
 split
 .rename_i cs h
  obtain⟨g1,g2⟩:=ayf (m:=m) h
  simp only[Rep]
  exact⟨vs.toList,by simp,g2,g1⟩
 .simp[Rep]
theorem atX(k:Know)(ow:Own)(v:Value):aE k ow (aa5 v) v:=by
 unfold aa5
 split <;> first|(simp[aE,Rep,Value.oneCell'];done)|(simp only[aE];exact aM1 _)
theorem Sim.ev(h:Sim M0 k ow done w0 w N s tmps)(x:Operand):aE k ow (s.ev x) ((⟨tmps,ds⟩ : Act).eval x):=by
 cases x with
 | tmp t=>exact h.fr t
 | const v=>exact atX k ow v
 | func f=>simp[S.ev,Act.eval,aE,Rep,bu]
 | global g=>simp[S.ev,aE,Rep]
def Own.re(ρ:Tk->Option Tk)(ow ow':Own):Prop :=
 (∀ t p t',ow t=some p->ρ t=some t'->ow' t'=some p)/\(∀ t' p,ow' t'=some p->∃ t,ow t=some p/\ρ t=some t')
theorem Sim.tr(h:Sim M0 k ow done w0 w N s tmps){ρ:Tk->Option Tk}{ow':Own}(hr:ow.re ρ ow')(hrow:∀ r v e z n g t',ow (abq r)=some (v,e,z,n)->v.ownBlock=some g->k.μ r=some g->Liv s.objs r->ρ (abq r)=some t'->t'=abq r)(hf:∀ t p,ow' t=some p->t.older s.clk done)(hc:∀ r off p,ow' (.cell r off)=some p->r<s.objs.length) :
  Sim M0 k ow' done w0 w N (s.tr ρ) tmps :=
 have hn:Ren some ρ k k ow ow':=⟨λ_ _ _ h=>h,λr b r' hr he=>by cases he;exact hr,hr.1⟩
 {good:=h.good
  size:=h.size
  below:=h.below
  fr:=λj=>aE.tr hn _ _ (h.fr j)
  mem:=h.mem
  obj:=λr ob hr=>by
   simp only[S.tr,bp,ap] at hr
   obtain⟨ob',h1,rfl⟩:=hr
   obtain⟨b,h2,h3,h4,h5,h6⟩:=h.obj r ob' h1
   exact⟨b,h2,h3,h4,λhl=>h5 (by rw[← acn some ρ];exact hl),h6.tr hn⟩
  dom:=λr b hr=>by simpa [S.tr] using h.dom r b hr
  inj:=λr r' b hr hr' hl hl'=>h.inj r r' b hr hr' (adG (acn some ρ) hl) (adG (acn some ρ) hl')
  tok:=λt' v e z n ht=>by
   obtain⟨t,g1,g4⟩:=hr.2 _ _ ht
   obtain⟨g2,g3⟩:=h.tok t v e z n g1
   exact⟨g2,λg hg=>⟨(g3 g hg).1,(g3 g hg).2.1,λr hr=>⟨afy (λ_ _=>rfl) ((g3 g hg).2.2 r hr).1,λhl=>by
    have hl':=adG (acn some ρ) hl
    obtain rfl:=((g3 g hg).2.2 r hr).2 hl'
    exact hrow r v e z n g t' g1 hg hr hl' g4⟩⟩⟩
  tokne:=λt t' v e z n v' e' z' n' ht ht' hne=>by
   obtain⟨a,g1,g2⟩:=hr.2 _ _ ht
   obtain⟨b,g3,g4⟩:=hr.2 _ _ ht'
   exact h.tokne a b v e z n v' e' z' n' g1 g3 (λe=>hne (by subst e;rw[g2] at g4;exact ay g4))
  fresh:=hf
  cells:=λr off p ht=>by simpa [S.tr] using hc r off p ht
  m0:=h.m0}
end
structure TD.Ok (P:Program) (t:Nat) (d:TD):Prop where
 und:P.underlying t=some d.und
 info:∃ i,P.info? t=some i/\i.size=d.size/\i.bytes=d.bytes/\∃ z,i.zero=some z/\z.cells.toList=d.zero/\anO z=anP d.und
 agg:d.agg=anP d.und
 one:∀ u∈d.zero,u.oneCell'=true
 len:d.zero.length=d.size
 fields:fieldsOf P d.und=some d.fields
theorem TT.of_ok{P:Program}{t:Nat}{d:TD}(h:TT.of P t=some d):TD.Ok P t d:=by
 unfold TT.of at h
 split at h
 .rename_i u i hu hi
  split at h
  .rename_i z fl hz hfl
   split at h
   .rename_i hc
    simp only[ab] at h
    subst h
    simp only[aj,List.all_eq_true,dm] at hc
    exact⟨hu,⟨i,hi,rfl,rfl,z,hz,rfl,hc.2⟩,rfl,hc.1.1,by simpa using hc.1.2,hfl⟩
   .cases h
  .cases h
 .cases h
theorem TD.Ok.run_und{P:Program}{t:Nat}{d:TD}(h:TD.Ok P t d)(w:World):(underlying t).run P w=.ok d.und w:=run_underlying h.und w
theorem TD.Ok.run_size{P:Program}{t:Nat}{d:TD}(h:TD.Ok P t d)(w:World):(sizeOf t).run P w=.ok d.size w:=by
 obtain⟨i,hi,hs,_⟩:=h.info
 simp[sizeOf,typeInfo,hi,hs]
theorem TD.Ok.run_isAgg{P:Program}{t:Nat}{d:TD}(h:TD.Ok P t d)(w:World):(isAgg t).run P w=.ok d.agg w:=by
 unfold isAgg
 rw[Sem.run_bind,h.run_und,Result.andThen_ok,h.agg]
 unfold anP
 split <;> simp_all
theorem TD.Ok.run_zero{P:Program}{t:Nat}{d:TD}(h:TD.Ok P t d)(w:World):∃ z,(zeroValue t).run P w=.ok z w/\z.cells.toList=d.zero:=by
 obtain⟨i,hi,hs,_,z,hz,hz',_⟩:=h.info
 exact⟨z,by simp[zeroValue,typeInfo,hi,hz],hz'⟩
theorem TD.Ok.run_zero2{P:Program}{t:Nat}{d:TD}(h:TD.Ok P t d)(w:World):∃ z,(zeroValue t).run P w=.ok z w/\z.cells.toList=d.zero/\anO z=d.agg:=by
 obtain⟨i,hi,hs,_,z,hz,hz',hz2⟩:=h.info
 exact⟨z,by simp[zeroValue,typeInfo,hi,hz],hz',by rw[h.agg,hz2]⟩
theorem TD.Ok.cells{P:Program}{t:Nat}{d:TD}(h:TD.Ok P t d):P.cellsOf t=d.size:=by
 obtain⟨i,hi,hs,_⟩:=h.info
 simp[Program.cellsOf,hi,hs]
section
variable {P:Program} {M0:Base} {k:Know} {ow:Own} {done:Nat->Prop} {w0 w:World} {N:Nat} {s:S} {tmps:Array Value}
theorem am8(a b:Int):(a == b)=decide (a=b):=by
 by_cases h:a=b <;> simp[h]
theorem aGj(a b:ByteArray):(a.toList == b.toList)=decide (a=b):=by
 rw[ByteArray.toList_eq,ByteArray.toList_eq]
 by_cases h:a=b
 .subst h;simp
 .have:¬ a.data=b.data:=λe=>h (by cases a;cases b;simp_all)
  simp[h,this]
theorem apH(n:Nat){t:TypeId}(a b:Bool)(h:(underlying t).run P w=.ok .bool w):(Op.equalIn (n+1) t (.bool a) (.bool b)).run P w=.ok (a == b) w:=by
 simp[Op.equalIn,h]
theorem ayG{op:BinOp}{t:TypeId}{u v r:Value}(x y:Operand)(h:abI ((TT.of P t).map (·.und)) op u v=some r) :
  (do eqGuard op t x y u v;binOp op t u v).run P w=.ok r w/\r.oneCell'=true:=by
 unfold abI at h
 split at h
 .rename_i k a k' b
  split at h
  .rename_i hk
   subst hk
   unfold aer at h
   have hg:(eqGuard op t x y (.int k a) (.int k b)).run P w=.ok () w:=by
    cases op <;> simp[eqGuard]
   rw[Sem.run_bind,hg,Result.andThen_ok]
   cases op <;> simp only[ab,reduceCtorEq] at h
   case quo=>split at h <;> simp only[ab,reduceCtorEq] at h;rename_i hb;subst h;simp[binOp,Op.intDiv,hb,Value.oneCell']
   case rem=>split at h <;> simp only[ab,reduceCtorEq] at h;rename_i hb;subst h;simp[binOp,Op.intDiv,hb,Value.oneCell']
   all_goals
    subst h
    simp[binOp,Op.intArith,Op.intBits,Op.intCmp,Value.oneCell',am8,bne]
  .cases h
 .rename_i a b
  unfold an5 at h
  have hg:(eqGuard op t x y (.string a) (.string b)).run P w=.ok () w:=by
   cases op <;> simp[eqGuard]
  rw[Sem.run_bind,hg,Result.andThen_ok]
  cases op <;> simp only[ab,reduceCtorEq] at h
  case add =>
   split at h <;> simp only[ab,reduceCtorEq] at h
   rename_i hb
   subst h
   have:¬ ((a.size+b.size:Nat):Int)>IntKind.i64.max:=by
    unfold akw at hb
    have:IntKind.i64.max=9223372036854775807:=by decide
    omega
   simp only[binOp,Op.stringOp,ar this]
   exact⟨rfl,rfl⟩
  all_goals
   subst h
   simp only[binOp,Op.stringOp,aGj]
   exact⟨rfl,rfl⟩
 .rename_i a b
  split at h
  .rename_i hb
   cases hT:TT.of P t with
   | none=>simp[hT,alS] at hb
   | some d =>
    have hu:d.und=.bool:=by
     simp only[hT,aJ] at hb
     unfold alS at hb
     split at hb
     .rename_i e;simpa using e
     .cases hb
    have hund:=(TT.of_ok hT).run_und w
    rw[hu] at hund
    unfold ao4 at h
    have hg:(eqGuard op t x y (.bool a) (.bool b)).run P w=.ok () w:=by
     cases op <;> simp[eqGuard]
    rw[Sem.run_bind,hg,Result.andThen_ok]
    have he:(Op.equal t (.bool a) (.bool b)).run P w=.ok (a == b) w:=by
     exact apH 9999 a b hund
    cases op <;> simp only[ab,reduceCtorEq] at h
    all_goals
     subst h
     simp[binOp,he,Value.oneCell']
  .cases h
 .cases h
theorem auf{t:TypeId}{u:Value}(h:alf ((TT.of P t).map (·.und)) u=true) :
  ∃ d,TT.of P t=some d/\((∃ k' k n,d.und=.int k'/\u=.int k n)\/(∃ s,d.und=.string/\u=.string s)\/∃ b,d.und=.bool/\u=.bool b):=by
 cases hT:TT.of P t with
 | none=>simp[hT,alf] at h
 | some d =>
  refine⟨d,rfl,?_⟩
  simp only[hT,aJ] at h
  unfold alf at h
  split at h
  .rename_i e;exact .inl ⟨_,_,_,by simpa using e,rfl⟩
  .rename_i e;exact .inr (.inl ⟨_,by simpa using e,rfl⟩)
  .rename_i e;exact .inr (.inr ⟨_,by simpa using e,rfl⟩)
  .cases h
theorem axV{t:TypeId}{u:Value}(h:alf ((TT.of P t).map (·.und)) u=true)(xs:Array Value)(o:Nat)(hx:xs[o]?=some u):(part t xs o).run P w=.ok u w:=by
 obtain⟨d,hT,h⟩:=auf h
 have ok:=TT.of_ok hT
 have ha:d.agg=false:=by
  rw[ok.agg]
  rcases h with ⟨_,_,_,e,_⟩|⟨_,e,_⟩|⟨_,e,_⟩ <;> rw[e] <;> rfl
 unfold part
 rw[Sem.run_bind,ok.run_isAgg,Result.andThen_ok,ha]
 simp[hx]
theorem aY3{t:TypeId}{u v:Value}{b:Bool}(h:alf ((TT.of P t).map (·.und)) u=true)(he:ajC u v=some b)(n:Nat):(Op.equalIn (n+1) t u v).run P w=.ok b w:=by
 obtain⟨d,hT,h⟩:=auf h
 have ok:=TT.of_ok hT
 rcases h with ⟨k',k,m,e,rfl⟩|⟨s,e,rfl⟩|⟨b',e,rfl⟩
 .unfold ajC at he
  split at he
  .rename_i k1 a k2 c e1
   cases e1
   split at he
   .rename_i hk
    subst hk
    simp only[ab] at he
    subst he
    rw[Go.run_equalIn_int (P:=P) w n t k k' m c (by rw[ok.und,e]),am8]
   .cases he
  .rename_i e1;cases e1
  .rename_i e1;cases e1
  .cases he
 .unfold ajC at he
  split at he
  .rename_i e1;cases e1
  .rename_i a c e1
   cases e1
   simp only[ab] at he
   subst he
   rw[Go.run_equalIn_string (P:=P) w n t s c (by rw[ok.und,e]),aGj]
  .rename_i e1;cases e1
  .cases he
 .unfold ajC at he
  split at he
  .rename_i e1;cases e1
  .rename_i e1;cases e1
  .rename_i a c e1
   cases e1
   simp only[ab] at he
   subst he
   exact Go.run_equalIn_bool' (P:=P) w n t b' c (by rw[ok.und,e])
  .cases he
theorem anU{m:Mem}{xs ys:Array Value}(n:Nat):∀ (fs:List Field) (o:Nat) (cs ds:List C) (vs us:List Value) (b:Bool),adU (TT.of P) o fs cs ds=some b->xs.toList.drop o=vs->ys.toList.drop o=us->bu m cs vs->bu m ds us ->
  (Op.eqFields (n+1) xs ys fs).run P w=.ok b w
 | [],o,cs,ds,vs,us,b,h,_,_,_,_=>by
  have:b=true:=by
   cases cs with
   | nil=>cases ds with
    | nil=>simpa [adU] using h.symm
    | cons d q=>simp[adU] at h
   | cons c r=>simp[adU] at h
  subst this
  simp[Op.eqFields]
 | f::fs,o,cs,ds,vs,us,b,h,hv,hu,rv,ru=>by
  obtain⟨u,r,v,q,rfl,rfl⟩ : ∃ u r v q,cs=.lit u::r/\ds=.lit v::q:=by
   cases cs with
   | nil=>simp[adU] at h
   | cons c r=>cases c with
    | lit u=>cases ds with
     | nil=>simp[adU] at h
     | cons d q=>cases d with
      | lit v=>exact⟨_,_,_,_,rfl,rfl⟩
      | _=>simp[adU] at h
    | _=>simp[adU] at h
  .unfold adU at h
   split at h
   .rename_i hc
    simp only[aj,ado,dm] at hc
    obtain⟨⟨⟨h1,rfl⟩,h3⟩,h4⟩:=hc
    simp only[bu,Rep] at rv ru
    obtain⟨u,vr,rfl,⟨rfl,_⟩,rv⟩:=rv
    obtain⟨v,ur,rfl,⟨rfl,_⟩,ru⟩:=ru
    have gx:∀ (zs:Array Value) (z:Value) (zr:List Value),zs.toList.drop f.offset=z::zr->zs[f.offset]?=some z/\zs.toList.drop (f.offset+1)=zr:=λzs z zr hz=>by
     constructor
     .rw[← adc,← List.head?_drop,hz];rfl
     .rw[← afG,hz];rfl
    obtain⟨x1,x2⟩:=gx _ _ _ hv
    obtain⟨y1,y2⟩:=gx _ _ _ hu
    have p1:=axV (w:=w) h3 xs f.offset x1
    have p2:=axV (w:=w) h4 ys f.offset y1
    cases hq:ajC u v with
    | none=>simp[hq] at h
    | some b' =>
     have p3:=aY3 (w:=w) h3 hq n
     rw[Op.eqFields,au h1,Sem.run_bind,p1,Result.andThen_ok,Sem.run_bind,p2,Result.andThen_ok,Sem.run_bind,p3,Result.andThen_ok]
     cases b' with
     | true =>
      rw[hq] at h
      simpa using anU n fs (f.offset+1) r q vr ur b h x2 y2 rv ru
     | false =>
      rw[hq] at h
      simp only[ab] at h
      subst h
      rfl
   .cases h
theorem ayH{op:BinOp}{t:TypeId}{c d:Option C}{cx dx:C}{u v:Value}{z:X}{e:Option Tk}(x y:Operand){m:Mem}(h:afS P (TT.of P) t op c d=some (z,e))(hc:c=some cx)(hd:d=some dx)(ru:Rep m cx u)(rv:Rep m dx v) :
  ∃ b:Bool,z=aM b/\e=none/\(do eqGuard op t x y u v;binOp op t u v).run P w=.ok (.bool b) w:=by
 subst hc hd
 unfold afS at h
 split at h
 .rename_i cs ds e1 e2
  cases e1;cases e2
  simp only[Rep] at ru rv
  obtain⟨vs,rfl,_,ru⟩:=ru
  obtain⟨us,rfl,_,rv⟩:=rv
  have key:∀ b,aeO P (TT.of P) t cs ds=some b->P.eqGuardType P.depth t=false/\(Op.equalIn 10000 t (.agg vs.toArray) (.agg us.toArray)).run P w=.ok b w:=λb hb=>by
   unfold aeO at hb
   split at hb
   .rename_i fs _ _ _ _ _ hT
    split at hb
    .rename_i hc
     have ok:=TT.of_ok hT
     have hf:P.fieldsOf t=fs:=by simp[Program.fieldsOf,ok.und]
     refine⟨hc.2,?_⟩
     rw[Go.run_equalIn_struct (P:=P) w 9999 t _ _ (by rw[hf];exact ok.und) hc.1,hf]
     exact anU 9998 fs.toList 0 cs ds vs us b hb rfl rfl ru rv
    .cases hb
   .cases hb
  split at h
  .obtain⟨b,hb,rfl,rfl⟩ : ∃ b,aeO P (TT.of P) t cs ds=some b/\aM b=z/\none=e:=by
    simp only[bE,adL,ap,Function.comp,aY] at h
    obtain⟨b,h1,h2,h3⟩:=h
    exact⟨b,h1,h2,h3⟩
   obtain⟨h1,h2⟩:=key b hb
   refine⟨b,rfl,rfl,?_⟩
   rw[Sem.run_bind,Go.run_eqGuard_agg (P:=P) w .eql t x y _ _ h1,Result.andThen_ok,Go.run_eql_struct,h2]
   rfl
  .obtain⟨b,hb,rfl,rfl⟩ : ∃ b,aeO P (TT.of P) t cs ds=some b/\aM (!b)=z/\none=e:=by
    simp only[bE,adL,ap,Function.comp,aY] at h
    obtain⟨b,h1,h2,h3⟩:=h
    exact⟨b,h1,h2,h3⟩
   obtain⟨h1,h2⟩:=key b hb
   refine⟨!b,rfl,rfl,?_⟩
   rw[Sem.run_bind,Go.run_eqGuard_agg (P:=P) w .neq t x y _ _ h1,Result.andThen_ok,Go.run_neq_struct,h2]
   rfl
  .cases h
 .cases h
theorem azb{op:UnOp}{u r:Value}(h:aqv op u=some r):(Op.unary op u).run P w=.ok r w/\r.oneCell'=true:=by
 unfold aqv at h
 split at h
 .cases op <;> simp only[ab,reduceCtorEq] at h
  subst h
  simp[Op.unary,Op.intArith,Value.oneCell']
 .cases op <;> simp only[ab,reduceCtorEq] at h
  subst h
  simp[Op.unary,Value.oneCell']
 .cases h
theorem af8{x:X}{n:Int}{v:Value}(h:aas x=some n)(hx:aE k ow x v):v=.int .i64 n:=by
 unfold aas at h
 split at h
 .simp only[ab] at h
  subst h
  simp only[aE,Rep] at hx
  exact hx.1
 .cases h
theorem akb{x:X}{b:Bool}{v:Value}(h:adm x=some b)(hx:aE k ow x v):v=.bool b:=by
 unfold adm at h
 split at h
 .simp only[ab] at h
  subst h
  simp only[aE,Rep] at hx
  exact hx.1
 .cases h
theorem ao5{x:X}{cs:List C}{n:Nat}{v:Value}(h:aaT x=some (cs,n))(hx:aE k ow x v):Rep k.m (.sl cs n) v:=by
 unfold aaT at h
 split at h
 .simp only[bD] at h
  obtain⟨rfl,rfl⟩:=h
  simp only[aE] at hx
  subst hx
  simp only[Rep]
  exact⟨none,0,[],rfl,ae _,by simp[bu],λh=>absurd rfl h⟩
 .simp only[bD] at h
  obtain⟨rfl,rfl⟩:=h
  simp only[aE] at hx
  exact hx.2.2
 .simp only[bD] at h
  obtain⟨rfl,rfl⟩:=h
  simpa only [aE] using hx
 .cases h
theorem agk{t:Nat}{d:TD}(hT:TT.of P t=some d)(b o:Nat)(vs:List Value)(hlen:d.size<=vs.length)
  (hc:∀ i u,vs[i]?=some u->w.cell? ⟨b,o+i,none⟩=some u) (h1:d.agg=false->0<vs.length) :
  (loadVar t ⟨b,o,none⟩).run P w=.ok (if d.agg then .agg (vs.take d.size).toArray else vs.headD undef) w:=by
 have ok:=TT.of_ok hT
 unfold loadVar
 rw[Sem.run_bind,ok.run_isAgg,Result.andThen_ok]
 cases hagg:d.agg with
 | true =>
  simp only[am,Sem.run_bind,ok.run_size,Result.andThen_ok]
  have hl:(loadCells ⟨b,o,none⟩ (vs.take d.size).length).run P w=.ok (vs.take d.size).toArray w :=
   run_loadCells_list (P:=P) w ⟨b,o,none⟩ (vs.take d.size) (λj v hv=>by
    rw[Addr.add_lit]
    refine hc j v ?_
    rw[List.getElem?_take] at hv
    split at hv
    .exact hv
    .cases hv)
  rw[ac7,Nat.min_eq_left hlen] at hl
  rw[hl]
  rfl
 | false =>
  have:=h1 hagg
  cases vs with
  | nil=>simp at this
  | cons v r =>
   have h0:=hc 0 v aT
   simp only[abC] at h0
   simp[h0]
theorem ajs{t:Nat}{d:TD}{cs:List C}{c:C}{vs:List Value}(hT:TT.of P t=some d)(h:bi (TT.of P) t cs=some c)(hl:bu k.m cs vs)
  (h1:∀ u∈vs,u.oneCell'=true):d.size<=vs.length/\(d.agg=false->0<vs.length)/\Rep k.m c (if d.agg then .agg (vs.take d.size).toArray else vs.headD undef):=by
 unfold bi at h
 simp only[hT] at h
 split at h
 .rename_i hs
  have hs':d.size<=vs.length:=by rw[hl.length];exact hs
  refine⟨hs',?_⟩
  cases hagg:d.agg with
  | true =>
   simp only[hagg,am,ab] at h ⊢
   subst h
   refine⟨(λh=>(by cases h)),?_⟩
   simp only[Rep]
   exact⟨_,rfl,λu hu=>h1 u (abX hu),hl.take _⟩
  | false =>
   simp only[hagg,ah,av] at h ⊢
   split at h
   .rename_i c' r'
    simp only[ab] at h
    subst h
    simp only[bu] at hl
    obtain⟨v,r,rfl,hv,_⟩:=hl
    exact⟨by simp,by simpa using hv⟩
   .cases h
 .cases h
theorem ajr{t:Nat}{d:TD}{xs:List X}{x:X}{vs:List Value}(hT:TT.of P t=some d)(h:bx (TT.of P) t xs=some x)(hl:aP k ow xs vs)
  (h1:∀ u∈vs,u.oneCell'=true):d.size<=vs.length/\(d.agg=false->0<vs.length)/\aE k ow x (if d.agg then .agg (vs.take d.size).toArray else vs.headD undef):=by
 unfold bx at h
 simp only[hT] at h
 split at h
 .rename_i hs
  have hs':d.size<=vs.length:=by rw[hl.length];exact hs
  refine⟨hs',?_⟩
  cases hagg:d.agg with
  | true =>
   simp only[hagg,am,ab] at h ⊢
   subst h
   refine⟨(λh=>(by cases h)),?_⟩
   simp only[aE]
   exact⟨_,rfl,λu hu=>h1 u (abX hu),hl.takeN _⟩
  | false =>
   simp only[hagg,ah,av] at h ⊢
   split at h
   .rename_i c' r'
    simp only[ab] at h
    subst h
    simp only[aP] at hl
    obtain⟨v,r,rfl,hv,_⟩:=hl
    exact⟨by simp,by simpa using hv⟩
   .cases h
 .cases h
theorem apM{T:TT}{t:Nat}{cs:List C}{c:C}(h:bi T t cs=some c):∃ d,T t=some d:=by
 unfold bi at h
 split at h
 .cases h
 .exact⟨_,‹_›⟩
theorem aw4{T:TT}{t:Nat}{cs:List X}{c:X}(h:bx T t cs=some c):∃ d,T t=some d:=by
 unfold bx at h
 split at h
 .cases h
 .exact⟨_,‹_›⟩
theorem aq4{objs:List Ob}(hs:Hp M0 k ow w0 w objs){t:Nat}{x y:X}{e:Option Tk}{v:Value}(h:abk (TT.of P) objs t x=some (y,e))(hx:aE k ow x v) :
  e=none/\∃ u,(Instr.loadAt t v).run P w=.ok u w/\aE k ow y u:=by
 unfold abk at h
 split at h
 .rename_i r off
  split at h
  .rename_i ty xs hr
   simp only[bE,ap,aY] at h
   obtain⟨y',h,rfl,rfl⟩:=h
   obtain⟨b,hb,_,_,_,vs,hh,h1,hl⟩:=hs.obj r _ hr
   simp only[aE] at hx
   obtain⟨b',hb',rfl⟩:=hx
   obtain rfl:b'=b:=ay (hb'.symm.trans hb)
   obtain⟨d,hT⟩:=aw4 h
   obtain⟨g1,g2,g3⟩:=ajr hT h (hl.dropN off) (λu hu=>h1 u (dX hu))
   refine⟨rfl,_,?_,g3⟩
   simp only[Instr.loadAt,Instr.sureAddr,Sem.run_bind,Sem.run_pure,Result.andThen_ok]
   refine agk hT b' off (vs.drop off) g1 (λi u hu=>?_) g2
   rw[cell_of_row w b' (off+i) vs.toArray ty (0,0) hh]
   rw[dW] at hu
   simpa using hu
  .rename_i ty c0 cs hr
   simp only[bE,ap,aY] at h
   obtain⟨y',⟨c,h,rfl⟩,rfl,rfl⟩:=h
   obtain⟨b,hb,_,_,_,hob⟩:=hs.obj r _ hr
   rcases hob with h0|⟨vs,sp,hh,h1,hl⟩
   .cases h0
   simp only[aE] at hx
   obtain⟨b',hb',rfl⟩:=hx
   obtain rfl:b'=b:=ay (hb'.symm.trans hb)
   obtain⟨d,hT⟩:=apM h
   obtain⟨g1,g2,g3⟩:=ajs hT h (hl.drop off) (λu hu=>h1 u (dX hu))
   refine⟨rfl,_,?_,by simpa only [aE] using g3⟩
   simp only[Instr.loadAt,Instr.sureAddr,Sem.run_bind,Sem.run_pure,Result.andThen_ok]
   refine agk hT b' off (vs.drop off) g1 (λi u hu=>?_) g2
   rw[cell_of_row w b' (off+i) (vs++sp).toArray ty (0,0) hh]
   rw[dW] at hu
   have hlt:off+i<vs.length:=(List.getElem?_eq_some_iff.1 hu).1
   simpa [aZ hlt] using hu
  .cases h
 .rename_i cs
  simp only[bE,ap,aY] at h
  obtain⟨y',⟨c,h,rfl⟩,rfl,rfl⟩:=h
  simp only[aE,Rep] at hx
  obtain⟨b,o,vs,rfl,hl,hm⟩:=hx
  obtain⟨d,hT⟩:=apM h
  have h1:∀ u∈vs,u.oneCell'=true:=λu hu=>by
   obtain⟨i,hi⟩:=List.mem_iff_getElem?.1 hu
   exact (hs.mem _ _ _ (hm i u hi)).2
  obtain⟨g1,g2,g3⟩:=ajs hT h hl h1
  refine⟨rfl,_,?_,by simpa only [aE] using g3⟩
  simp only[Instr.loadAt,Instr.sureAddr,Sem.run_bind,Sem.run_pure,Result.andThen_ok]
  exact agk hT b o vs g1 (λi u hu=>(hs.mem _ _ _ (hm i u hu)).1) g2
 .cases h
theorem at2{α β:Type}(f:α->Option β):∀ (l:List α) (r:List β),l.mapM f=some r->∀ (i:Nat) (y:β),r[i]?=some y->∃ x,l[i]?=some x/\f x=some y
 | [],r,h,i,y,hy=>by simp at h;subst h;simp at hy
 | a::l,r,h,i,y,hy=>by
  simp only[afF,Option.bind_eq_bind,Option.pure_def,bI,ab] at h
  obtain⟨b,hb,q,hq,rfl⟩:=h
  cases i with
  | zero=>simp at hy;subst hy;exact⟨a,by simp,hb⟩
  | succ i=>simp at hy;simpa using at2 f l q hq i y hy
theorem aug{fs:Array Field}{fl':List (Nat×Nat)}{f:Nat}{o z:Nat}(h':fieldsOf P (.struct fs)=some fl')(h:fl'[f]?=some (o,z)) :
  ∃ fl,fs[f]?=some fl/\fl.offset=o/\∃ i,P.info? fl.type=some i/\i.size=z:=by
 obtain⟨x,h1,h2⟩:=at2 _ _ _ h' f _ h
 simp only[ap,aY] at h2
 obtain⟨i,hi,h3,h4⟩:=h2
 exact⟨x,by simpa using h1,h3,i,hi,h4⟩
theorem ak0{t f:Nat}{x y:X}{e:Option Tk}{v:Value}(h:fF (TT.of P) t f x=some (y,e))(hx:aE k ow x v) :
  e=none/\∃ u,(Instr.fieldAt t v f).run P w=.ok u w/\aE k ow y u:=by
 unfold fF aig at h
 cases hT:TT.of P t with
 | none=>simp[hT] at h
 | some d =>
  have ok:=TT.of_ok hT
  simp only[hT,db] at h
  cases hf:d.fields[f]? with
  | none=>simp[hf] at h
  | some oz =>
   obtain⟨o,z⟩:=oz
   simp only[hf] at h
   split at h
   .rename_i hz
    have hfl:=ok.fields
    have hund:∃ fs,d.und=.struct fs:=by
     unfold fieldsOf at hfl
     split at hfl
     .exact⟨_,‹_›⟩
     .simp only[ab] at hfl
      rw[← hfl] at hf
      simp at hf
    obtain⟨fs,hund⟩:=hund
    rw[hund] at hfl
    obtain⟨fl,h1,h2,h3⟩:=aug hfl hf
    have hru:=ok.run_und w
    rw[hund] at hru
    have hplace:∀ a:Addr,(fieldPlace a fl).run P w=.ok (a.add o) w:=λa=>by
     unfold fieldPlace
     obtain⟨i,hi,hiz⟩:=h3
     have hsz:(sizeOf fl.type).run P w=.ok z w:=by simp[sizeOf,typeInfo,hi,hiz]
     rw[Sem.run_bind,hsz,Result.andThen_ok,ar aC,h2]
     rfl
    split at h
    .rename_i r off
     simp only[out,bD] at h
     obtain⟨rfl,rfl⟩:=h
     simp only[aE] at hx
     obtain⟨b,hb,rfl⟩:=hx
     refine⟨rfl,.pointer (some ((⟨b,off,none⟩ : Addr).add o)),?_,?_⟩
     .simp[Instr.fieldAt,hru,h1,Instr.sureAddr,hplace]
     .simp only[aE,Addr.add_lit];exact⟨b,hb,rfl⟩
    .simp only[out,bD] at h
     obtain⟨rfl,rfl⟩:=h
     simp only[aE,Rep] at hx
     obtain⟨b,off,vs,rfl,hl,hm⟩:=hx
     refine⟨rfl,.pointer (some ((⟨b,off,none⟩ : Addr).add o)),?_,?_⟩
     .simp[Instr.fieldAt,hru,h1,Instr.sureAddr,hplace]
     .simp only[aE,Rep,Addr.add_lit]
      exact⟨b,off+o,vs.drop o,rfl,hl.drop o,λi u hu=>by
       rw[dW] at hu
       rw[bA]
       exact hm _ _ hu⟩
    .cases h
   .cases h
theorem arj{t:Nat}{x i y:X}{e:Option Tk}{v vi:Value}(h:bz (TT.of P) t x i=some (y,e))(hx:aE k ow x v)(hi:aE k ow i vi) :
  e=none/\∃ u,(Instr.indexAt t v vi).run P w=.ok u w/\aE k ow y u:=by
 unfold bz at h
 split at h
 .cases h
 .rename_i n hn
  obtain rfl:=af8 hn hi
  split at h
  .rename_i el sz by_ ag ze fi hT
   have hru:=(TT.of_ok hT).run_und w
   simp only at hru
   split at h
   .rename_i d cs m hd hsl
    split at h
    .rename_i hc
     obtain⟨h0,hlt,hlen,hpos⟩:=hc
     simp only[out,bD] at h
     obtain⟨rfl,rfl⟩:=h
     have hs:=ao5 hsl hx
     simp only[Rep] at hs
     obtain⟨a,cap,vs,rfl,hcap,hl,hm⟩:=hs
     have hm0:0<m:=by omega
     have hvs:vs≠[]:=by
      intro e
      have:=hl.length
      rw[e,hlen] at this
      have:0<m*d.size:=ahH hm0 hpos
      simp at *
      omega
     obtain⟨b,o,rfl,hm2⟩:=hm hvs
     refine⟨rfl,.pointer (some ((⟨b,o,none⟩ : Addr).add (n.toNat*d.size))),?_,?_⟩
     .simp[Instr.indexAt,asIntOf,hru,h0,hlt,(TT.of_ok hd).run_size]
     .simp only[aE,Rep,Addr.add_lit]
      exact⟨b,_,vs.drop (n.toNat*d.size),rfl,hl.drop _,λi u hu=>by
       rw[dW] at hu
       rw[bA]
       exact hm2 _ _ hu⟩
    .cases h
   .rename_i d hd _
    unfold ahX at h
    split at h
    .rename_i r e' z'
     split at h
     .rename_i hc
      obtain⟨rfl,rfl,rfl,hpos⟩:=hc
      simp only[out,bD] at h
      obtain⟨rfl,rfl⟩:=h
      simp only[aE] at hx
      obtain⟨_,b,cap,hb,rfl⟩:=hx
      refine⟨rfl,.pointer (some ((⟨b,0,none⟩ : Addr).add 0)),?_,?_⟩
      .simp[Instr.indexAt,asIntOf,hru,(TT.of_ok hd).run_size]
      .simp only[aE,Addr.add_lit];exact⟨b,hb,rfl⟩
     .cases h
    .cases h
   .cases h
  .rename_i len el sz by_ ag ze fi hT
   have hru:=(TT.of_ok hT).run_und w
   simp only at hru
   split at h
   .rename_i d hd
    split at h
    .rename_i hc
     split at h
     .rename_i r off
      simp only[out,bD] at h
      obtain⟨rfl,rfl⟩:=h
      simp only[aE] at hx
      obtain⟨b,hb,rfl⟩:=hx
      refine⟨rfl,.pointer (some ((⟨b,off,none⟩ : Addr).add (n.toNat*d.size))),?_,?_⟩
      .simp[Instr.indexAt,asIntOf,hru,hc.1,hc.2,(TT.of_ok hd).run_size,Instr.sureAddr]
      .simp only[aE,Addr.add_lit];exact⟨b,hb,rfl⟩
     .simp only[out,bD] at h
      obtain⟨rfl,rfl⟩:=h
      simp only[aE,Rep] at hx
      obtain⟨b,o,vs,rfl,hl,hm⟩:=hx
      refine⟨rfl,.pointer (some ((⟨b,o,none⟩ : Addr).add (n.toNat*d.size))),?_,?_⟩
      .simp[Instr.indexAt,asIntOf,hru,hc.1,hc.2,(TT.of_ok hd).run_size,Instr.sureAddr]
      .simp only[aE,Rep,Addr.add_lit]
       exact⟨b,_,vs.drop (n.toNat*d.size),rfl,hl.drop _,λi u hu=>by
        rw[dW] at hu
        rw[bA]
        exact hm _ _ hu⟩
     .cases h
    .cases h
   .cases h
  .cases h
end
section
variable {P:Program} {M0:Base} {k:Know} {ow:Own} {done:Nat->Prop} {w0 w:World} {N:Nat} {s:S} {tmps:Array Value}
theorem amp{t:Nat}{d:TD}(hT:TT.of P t=some d)(vs:List Value)(o:Nat)(h1:d.agg=false->o<vs.length) :
  (part t vs.toArray o).run P w=.ok (if d.agg then .agg ((vs.drop o).take d.size).toArray else (vs.drop o).headD undef) w:=by
 have ok:=TT.of_ok hT
 unfold part
 rw[Sem.run_bind,ok.run_isAgg,Result.andThen_ok]
 cases hagg:d.agg with
 | true =>
  simp only[am,Sem.run_bind,ok.run_size,Result.andThen_ok,Sem.run_pure]
  congr 2
  apply aga
  simp[ab7]
 | false =>
  have hlt:=h1 hagg
  simp only[ah,av]
  have:vs.toArray[o]?=some vs[o]:=by simp[hlt]
  rw[this]
  simp only[Sem.run_pure]
  congr 1
  rw[co hlt]
  rfl
theorem az1{t f:Nat}{x y:X}{e:Option Tk}{v:Value}(h:afO (TT.of P) t f x=some (y,e))(hx:aE k ow x v) :
  e=none/\∃ u,(Instr.field t v f).run P w=.ok u w/\aE k ow y u:=by
 unfold afO at h
 split at h
 .rename_i d hT
  have ok:=TT.of_ok hT
  split at h
  .rename_i o z u hf hu
   have hfl:=ok.fields
   unfold aoT at hu
   split at hu
   .rename_i fs i hund
    rw[hund] at hfl
    obtain⟨fl,h1,h2,_⟩:=aug hfl hf
    rw[h1] at hu
    simp only[aJ,ab] at hu
    have hru:=ok.run_und w
    rw[hund] at hru
    split at h
    .rename_i xs
     simp only[bE,ap,aY] at h
     obtain⟨y',h,rfl,rfl⟩:=h
     simp only[aE] at hx
     obtain⟨vs,rfl,hone,hl⟩:=hx
     obtain⟨d',hT'⟩:=aw4 h
     obtain⟨g1,g2,g3⟩:=ajr hT' h (hl.dropN o) (λu hu=>hone u (dX hu))
     refine⟨rfl,_,?_,g3⟩
     have hp:=amp (w:=w) hT' vs o (λha=>by have:=g2 ha;simp at this;omega)
     simp[Instr.field,hru,h1,asAgg,hu,h2,hp]
    .rename_i cs
     simp only[bE,ap,aY] at h
     obtain⟨y',⟨c,h,rfl⟩,rfl,rfl⟩:=h
     simp only[aE,Rep] at hx
     obtain⟨vs,rfl,hone,hl⟩:=hx
     obtain⟨d',hT'⟩:=apM h
     obtain⟨g1,g2,g3⟩:=ajs hT' h (hl.drop o) (λu hu=>hone u (dX hu))
     refine⟨rfl,_,?_,by simpa only [aE] using g3⟩
     have hp:=amp (w:=w) hT' vs o (λha=>by have:=g2 ha;simp at this;omega)
     simp[Instr.field,hru,h1,asAgg,hu,h2,hp]
    .cases h
   .cases hu
  .cases h
 .cases h
theorem awK{u:Option TypeDesc}(h:afK u=true):u=some .string:=by
 unfold afK at h
 split at h
 .rfl
 .cases h
theorem slD{u:Option TypeDesc}(h:ahK u=true):∃ e,u=some (.slice e):=by
 unfold ahK at h
 split at h
 .exact⟨_,rfl⟩
 .cases h
theorem aiE{t:Nat}{u:TypeDesc}(h:(TT.of P t).map (·.und)=some u):(underlying t).run P w=.ok u w:=by
 cases hT:TT.of P t with
 | none=>simp[hT] at h
 | some d =>
  simp only[hT,aJ,ab] at h
  rw[← h]
  exact (TT.of_ok hT).run_und w
theorem azV{t:Nat}{x i y:X}{e:Option Tk}{v vi:Value}(h:afL (TT.of P) t x i=some (y,e))(hx:aE k ow x v)(hi:aE k ow i vi) :
  e=none/\∃ u,(Instr.index t v vi).run P w=.ok u w/\aE k ow y u:=by
 unfold afL at h
 split at h
 .cases h
 .rename_i n hn
  obtain rfl:=af8 hn hi
  split at h
  .rename_i st
   split at h
   .rename_i hc
    simp only[out,bD] at h
    obtain⟨rfl,rfl⟩:=h
    simp only[aE,Rep] at hx
    obtain⟨rfl,_⟩:=hx
    have hru:=aiE (w:=w) (awK hc.1)
    refine⟨rfl,.int .u8 (st[n.toNat]'hc.2.2).toNat,?_,by simp[aE,Rep,Value.oneCell']⟩
    have hg:st[n.toNat]?=some (st[n.toNat]'hc.2.2):=by simp[hc.2.2]
    simp[Instr.index,asIntOf,hru,hc.2.1,hg]
   .cases h
  .rename_i xs
   split at h
   .rename_i len el sz by_ ag ze fi hT
    have hru:=(TT.of_ok hT).run_und w
    simp only at hru
    split at h
    .rename_i d hd
     split at h
     .rename_i hc
      simp only[bE,ap,aY] at h
      obtain⟨y',h,rfl,rfl⟩:=h
      simp only[aE] at hx
      obtain⟨vs,rfl,hone,hl⟩:=hx
      obtain⟨g1,g2,g3⟩:=ajr hd h (hl.dropN _) (λu hu=>hone u (dX hu))
      refine⟨rfl,_,?_,g3⟩
      have hp:=amp (w:=w) hd vs (n.toNat*d.size) (λha=>by have:=g2 ha;simp at this;omega)
      simp[Instr.index,asIntOf,hru,hc.1,hc.2,(TT.of_ok hd).run_size,hp]
     .cases h
    .cases h
   .cases h
  .rename_i cs
   split at h
   .rename_i len el sz by_ ag ze fi hT
    have hru:=(TT.of_ok hT).run_und w
    simp only at hru
    split at h
    .rename_i d hd
     split at h
     .rename_i hc
      simp only[bE,ap,aY] at h
      obtain⟨y',⟨c,h,rfl⟩,rfl,rfl⟩:=h
      simp only[aE,Rep] at hx
      obtain⟨vs,rfl,hone,hl⟩:=hx
      obtain⟨g1,g2,g3⟩:=ajs hd h (hl.drop _) (λu hu=>hone u (dX hu))
      refine⟨rfl,_,?_,by simpa only [aE] using g3⟩
      have hp:=amp (w:=w) hd vs (n.toNat*d.size) (λha=>by have:=g2 ha;simp at this;omega)
      simp[Instr.index,asIntOf,hru,hc.1,hc.2,(TT.of_ok hd).run_size,hp]
     .cases h
    .cases h
   .cases h
  .cases h
theorem aHJ{t ty:Nat}{x y:X}{e:Option Tk}{v:Value}(h:fV ((TT.of P t).map (·.und)) x=some (y,e))(hx:aE k ow x v) :
  e=none/\∃ u,(Builtin.len_ #[t] ty #[v]).run P w=.ok u w/\aE k ow y u:=by
 unfold fV at h
 split at h
 .rename_i st
  split at h
  .rename_i hs
   simp only[out,bD] at h
   obtain⟨rfl,rfl⟩:=h
   simp only[aE,Rep] at hx
   obtain⟨rfl,_⟩:=hx
   exact⟨rfl,.int .i64 st.size,by simp[Builtin.len_,aiE (w:=w) (awK hs),goInt],by simp[aE,Rep,Value.oneCell']⟩
  .cases h
 .split at h
  .rename_i cs n hsl
   split at h
   .rename_i hs
    obtain⟨el,hs⟩:=slD hs
    simp only[out,bD] at h
    obtain⟨rfl,rfl⟩:=h
    have hs2:=ao5 hsl hx
    simp only[Rep] at hs2
    obtain⟨a,cap,vs,rfl,_⟩:=hs2
    exact⟨rfl,.int .i64 n,by simp[Builtin.len_,aiE (w:=w) hs,goInt],by simp[aE,Rep,Value.oneCell']⟩
   .cases h
  .unfold ajY at h
   split at h
   .split at h
    .rename_i hs
     obtain⟨el,hs⟩:=slD hs
     simp only[out,bD] at h
     obtain⟨rfl,rfl⟩:=h
     simp only[aE] at hx
     obtain⟨_,b,cap,_,rfl⟩:=hx
     exact⟨rfl,.int .i64 1,by simp[Builtin.len_,aiE (w:=w) hs,goInt],by simp[aE,Rep,Value.oneCell']⟩
    .cases h
   .cases h
theorem u8D{d:Option TD}(h:amK d=true):∃ dd,d=some dd/\dd.und=.int .u8/\dd.size=1:=by
 unfold amK at h
 split at h
 .exact⟨_,rfl,rfl,rfl⟩
 .cases h
theorem ao9{m:Mem}:∀ (cs:List C) (vs:List Value) (l:List UInt8),aeZ cs=some l->bu m cs vs->∃ ns:List Int,vs=ns.map (Value.int .u8)/\l=ns.map λn=>UInt8.ofNat n.toNat
 | [],vs,l,h,hr=>by
  simp only[aeZ,ab] at h
  subst h
  simp only[bu] at hr
  subst hr
  exact⟨[],rfl,rfl⟩
 | c::cs,vs,l,h,hr=>by
  unfold aeZ at h
  split at h
  .rename_i e;cases e
  .rename_i n r e
   cases e
   simp only[ap] at h
   obtain⟨q,hq,rfl⟩:=h
   simp only[bu,Rep] at hr
   obtain⟨v,rest,rfl,⟨rfl,_⟩,hr⟩:=hr
   obtain⟨ns,rfl,rfl⟩:=ao9 _ rest q hq hr
   exact⟨n::ns,rfl,rfl⟩
  .cases h
theorem az6(hm:∀ b o v,k.m b o=some v->w.cell? ⟨b,o,none⟩=some v){a b:Nat}{x y:X}{e:Option Tk}{v:Value}(hb:(TT.of P b).map (·.und)=some .string)(h:ajD (TT.of P) (TT.of P a) x=some (y,e))(hx:aE k ow x v) :
  e=none/\∃ u,(convert a b v).run P w=.ok u w/\aE k ow y u:=by
 unfold ajD at h
 split at h
 .rename_i e' _ _ _ _ _ cs n hT hsl
  split at h
  .rename_i hc
   obtain⟨h8,hlen⟩:=hc
   obtain⟨l,hl,hy⟩ : ∃ l,aeZ cs=some l/\y=agi ⟨l.toArray⟩/\e=none:=by
    cases hu:aeZ cs with
    | none=>simp[hu,bE] at h
    | some l=>simp only[hu,bE,aJ,bD] at h;exact⟨l,rfl,h.1.symm,h.2.symm⟩
   obtain⟨rfl,rfl⟩:=hy
   refine⟨rfl,?_⟩
   have hund:P.underlying a=some (.slice e'):=(TT.of_ok hT).und
   obtain⟨dd,hd1,hd2,_⟩:=u8D h8
   have hu8:P.underlying e'=some (.int .u8):=by rw[← hd2];exact (TT.of_ok hd1).und
   have hst:P.underlying b=some .string:=by
    cases hTb:TT.of P b with
    | none=>simp[hTb] at hb
    | some d2=>simp only[hTb,aJ,ab] at hb;rw[← hb];exact (TT.of_ok hTb).und
   have hr:=ao5 hsl hx
   simp only[Rep] at hr
   obtain⟨A,cap,vs,rfl,hcap,hvl,hmem⟩:=hr
   obtain⟨ns,rfl,rfl⟩:=ao9 cs vs l hl hvl
   have hnl:ns.length=n:=by have:=hvl.length;simp only[cN] at this;omega
   by_cases hne:ns=[]
   .subst hne
    simp only[aR] at hnl
    subst hnl
    refine⟨.string ByteArray.empty,?_,by simp[aE,Rep,Value.oneCell'];rfl⟩
    cases A with
    | none=>exact run_convert_bytes_nil w a e' hund hu8 0 cap b hst
    | some ad =>
     rw[run_convert_bytes_string w a b e' _ 0 cap hund hu8 hst]
     have h0:(loadCells ad 0).run P w=.ok #[] w:=by simp[loadCells,loadCellsFrom]
     have:=run_bytesToString (P:=P) w ad 0 cap [] (by simpa using h0)
     simpa using this
   .obtain⟨bb,o,rfl,hcell⟩:=hmem (by simpa using hne)
    refine⟨.string (strOfNums ns),run_convert_bytes_arg w a e' hund hu8 bb o n cap ns hnl (λi hi=>?_) b hst,by simp[aE,Rep,Value.oneCell',strOfNums]⟩
    have hi':(ns.map (Value.int .u8))[i]?=some (.int .u8 (ns.getD i 0)):=by
     have:i<ns.length:=by omega
     simp[List.getD,this]
    exact hm _ _ _ (hcell i _ hi')
  .cases h
 .cases h
theorem auX(hm:∀ b o v,k.m b o=some v->w.cell? ⟨b,o,none⟩=some v){a b:Nat}{x y:X}{e:Option Tk}{v:Value}(h:adv (TT.of P) a b x=some (y,e))(hx:aE k ow x v) :
  e=none/\∃ u,(convert a b v).run P w=.ok u w/\aE k ow y u:=by
 unfold adv at h
 split at h
 .rename_i d kk kk' n hd hT
  simp only[out,bD] at h
  obtain⟨rfl,rfl⟩:=h
  simp only[aE,Rep] at hx
  obtain⟨rfl,_⟩:=hx
  refine⟨rfl,.int kk (kk.wrap n),?_,by simp[aE,Rep,Value.oneCell']⟩
  simp[convert,(TT.of_ok hd).run_und,aiE (w:=w) hT,Conv.intToInt]
 .rename_i d s' hd hT
  simp only[out,bD] at h
  obtain⟨rfl,rfl⟩:=h
  simp only[aE,Rep] at hx
  obtain⟨rfl,_⟩:=hx
  refine⟨rfl,.string s',?_,by simp[aE,Rep,Value.oneCell']⟩
  simp[convert,(TT.of_ok hd).run_und,aiE (w:=w) hT]
 .rename_i hT _
  exact az6 hm hT h hx
 .cases h
theorem ahO{t e:Nat}{d:TD}(h:elemOf (TT.of P) t=some (e,d)):(TT.of P t).map (·.und)=some (.slice e)/\TT.of P e=some d:=by
 unfold elemOf at h
 split at h
 .rename_i el _ _ _ _ _ hT
  simp only[ap,aY] at h
  obtain⟨d',hd,rfl,rfl⟩:=h
  exact⟨by simp[hT],hd⟩
 .cases h
def aFL(k:Know)(ow:Own):Option X->Option Value->Prop
 | none,none=>True
 | some x,some v=>aE k ow x v
 | _,_=>False
theorem aoC{x:Option X}{n d:Int}{v:Option Value}(h:aeQ d x=some n)(hx:aFL k ow x v):(v=none/\n=d)\/v=some (.int .i64 n):=by
 cases x with
 | none =>
  cases v with
  | none=>simp only[aeQ,ab] at h;exact .inl ⟨rfl,h.symm⟩
  | some v=>exact hx.elim
 | some x =>
  cases v with
  | none=>exact hx.elim
  | some v=>exact .inr (by rw[af8 h hx])
theorem amq{sl:Bool}{len cap:Nat}{l h:Int}{vl vh:Option Value}(hl:(vl=none/\l=0)\/vl=some (.int .i64 l))(hh:(vh=none/\h=(len:Int))\/vh=some (.int .i64 h))
  (h0:0<=l) (h1:l<=h) (h2:h<=(cap:Int)):(Instr.sliceBounds sl len cap vl vh none).run P w=.ok (l.toNat,h.toNat,cap) w:=by
 have b1:0<=h:=by omega
 have b2:(h.toNat:Int)=h:=by omega
 rcases hl with ⟨rfl,rfl⟩|rfl <;> rcases hh with ⟨rfl,rfl⟩|rfl
 .simp[Instr.sliceBounds]
 .simp[Instr.sliceBounds,Instr.sliceBound,asIntOf,b1,h2]
 .have:l<=(len:Int):=h1
  simp[Instr.sliceBounds,Instr.sliceBound,asIntOf,h0,this]
 .have:l<=(h.toNat:Int):=by omega
  simp[Instr.sliceBounds,Instr.sliceBound,asIntOf,b1,h2,h0]
  intro hlt
  omega
theorem azn{t:Nat}{x y:X}{lo hi:Option X}{e:Option Tk}{v:Value}{vl vh:Option Value}(h:acJ (TT.of P) t x lo hi=some (y,e))(hx:aE k ow x v)
  (hl:aFL k ow lo vl) (hh:aFL k ow hi vh) :
  e=none/\∃ u,(Instr.sliceAt t v vl vh none).run P w=.ok u w/\aE k ow y u:=by
 unfold acJ at h
 split at h
 .rename_i st
  split at h
  .rename_i hs
   split at h
   .rename_i l h' e1 e2
    split at h
    .rename_i hc
     simp only[out,bD] at h
     obtain⟨rfl,rfl⟩:=h
     simp only[aE,Rep] at hx
     obtain⟨rfl,_⟩:=hx
     have hru:=aiE (w:=w) (awK hs)
     have r1:(vl=none/\l=0)\/vl=some (.int .i64 l):=aoC e1 hl
     have r2:(vh=none/\h'=(st.size:Int))\/vh=some (.int .i64 h'):=aoC e2 hh
     refine⟨rfl,.string (st.extract l.toNat h'.toNat),?_,by simp[aE,Rep,Value.oneCell']⟩
     simp[Instr.sliceAt,Instr.slice,hru,amq (P:=P) (w:=w) (sl:=false) r1 r2 hc.1 hc.2.1 hc.2.2]
    .cases h
   .cases h
  .cases h
 .split at h
  .rename_i el d cs n he hsl
   split at h
   .rename_i l h' e1 e2
    split at h
    .rename_i hc
     obtain⟨c1,c2,c3,c4⟩:=hc
     simp only[out,bD] at h
     obtain⟨rfl,rfl⟩:=h
     obtain⟨hund,hd⟩:=ahO he
     have hru:=aiE (w:=w) hund
     have hs:=ao5 hsl hx
     simp only[Rep] at hs
     obtain⟨a,cap,vs,rfl,hcap,hvl,hm⟩:=hs
     have r1:(vl=none/\l=0)\/vl=some (.int .i64 l):=aoC e1 hl
     have r2:(vh=none/\h'=(n:Int))\/vh=some (.int .i64 h'):=aoC e2 hh
     have hb:=amq (P:=P) (w:=w) (sl:=true) (cap:=cap) r1 r2 c1 c2 aC
     refine⟨rfl,.slice (if cap=l.toNat then a else a.map (·.add (l.toNat*d.size))) (h'.toNat-l.toNat) (cap-l.toNat),?_,?_⟩
     .simp[Instr.sliceAt,Instr.slice,hru,hb,(TT.of_ok hd).run_size]
     .simp only[aE,Rep]
      refine⟨_,_,(vs.drop (l.toNat*d.size)).take ((h'.toNat-l.toNat)*d.size),rfl,by omega,(hvl.drop _).take _,λhne=>?_⟩
      have hlt:l.toNat<h'.toNat:=by
       rcases aA l.toNat h'.toNat with g|g
       .exact g
       .have:h'.toNat-l.toNat=0:=by omega
        rw[this] at hne
        simp at hne
      have hvs:vs≠[]:=by
       rintro rfl
       simp at hne
      obtain⟨b,o,rfl,hm2⟩:=hm hvs
      rw[ar aC]
      refine⟨b,o+l.toNat*d.size,by simp[Addr.add_lit],λi u hu=>?_⟩
      rw[List.getElem?_take] at hu
      split at hu
      .rw[dW] at hu
       rw[bA]
       exact hm2 _ _ hu
      .cases hu
    .cases h
   .cases h
  .cases h
theorem axP(off:Nat):∀ (vs:List Value) (cells:Array Value) (j:Nat),off+j+vs.length<=cells.size ->
  ((vs.zipIdx j).foldl (λcs p=>cs.setIfInBounds (off+p.2) p.1) cells).toList=cells.toList.take (off+j)++vs++cells.toList.drop (off+j+vs.length)
 | [],cells,j,_=>by simp
 | v::r,cells,j,h=>by
  simp only[aN] at h
  simp only[List.zipIdx_cons,adw]
  rw[axP off r (cells.setIfInBounds (off+j) v) (j+1) (by simp;omega)]
  have hlt:off+j<cells.toList.length:=by simp;omega
  have e1:(cells.setIfInBounds (off+j) v).toList=cells.toList.set (off+j) v:=by simp
  rw[e1]
  have e2:(cells.toList.set (off+j) v).take (off+(j+1))=cells.toList.take (off+j)++[v]:=by
   rw[← bA,List.take_succ_eq_append_getElem (by simpa using hlt)]
   simp[List.take_set_of_le]
  have e3:(cells.toList.set (off+j) v).drop (off+(j+1)+r.length)=cells.toList.drop (off+j+(v::r).length):=by
   rw[List.drop_set_of_lt aC]
   congr 1
   simp only[aN]
   omega
  rw[e2,e3]
  simp
theorem aMB(vs:List Value)(cells:Array Value)(off:Nat)(h:off+vs.length<=cells.size) :
  (vs.toArray.zipIdx.foldl (λcs (c,j)=>cs.setIfInBounds (off+j) c) cells).toList=cells.toList.take off++vs++cells.toList.drop (off+vs.length):=by
 rw[← Array.foldl_toList,Array.toList_zipIdx]
 exact axP off vs cells 0 (by simpa using h)
end
section
variable {P:Program} {M0:Base} {k:Know} {ow:Own} {done:Nat->Prop} {w0 w:World} {N:Nat} {s:S} {tmps:Array Value}
inductive RepParts (k:Know) (ow:Own):List (Nat×List X)->List (Nat×Value)->Prop where
 | nil:RepParts k ow [] []
 | cons {i:Nat} {xs:List X} {v:Value} {qs:List (Nat×List X)} {ps:List (Nat×Value)} (h:aP k ow xs v.cells.toList) (h1:∀ u∈v.cells.toList,u.oneCell'=true)
   (r:RepParts k ow qs ps):RepParts k ow ((i,xs)::qs) ((i,v)::ps)
theorem amx{f:Operand->X}{g:Operand->Value}(hf:∀ x,aE k ow (f x) (g x)):∀ (ps:List (Nat×Operand)) (qs:List (Nat×List X)),fQ f ps=some qs->RepParts k ow qs (ps.map λp=>(p.1,g p.2))
 | [],qs,h=>by simp only[fQ,ab] at h;subst h;exact .nil
 | (i,x)::r,qs,h=>by
  simp only[fQ] at h
  split at h
  .rename_i l q hl hq
   simp only[ab] at h
   subst h
   obtain⟨h1,h2⟩:=aeE hl (hf x)
   exact .cons h1 h2 (amx hf r q hq)
  .cases h
theorem amO(place:Nat->Option (Nat×Nat)):∀ {qs:List (Nat×List X)} {ps:List (Nat×Value)} {cells r:List X} {vals:Array Value},RepParts k ow qs ps->aah place cells qs=some r ->
  aP k ow cells vals.toList->(∀ u∈vals.toList,u.oneCell'=true)->∃ o,Instr.fill place vals ps=some o/\aP k ow r o.toList/\∀ u∈o.toList,u.oneCell'=true:=by
 intro qs ps cells r vals hp
 induction hp generalizing cells vals with
 | nil =>
  intro h hc h1
  simp only[aah,ab] at h
  subst h
  exact⟨vals,rfl,hc,h1⟩
 | @cons i xs v qs ps hx hx1 hr ih =>
  intro h hc h1
  simp only[aah] at h
  split at h
  .cases h
  .rename_i off size hpl
   split at h
   .rename_i hsz
    have hlx:v.cells.size=xs.length:=by have:=hx.length;simpa using this
    have hlc:vals.size=cells.length:=by have:=hc.length;simpa using this
    simp only[Instr.fill,hpl]
    have hcond:(decide (v.cells.size≠size)||decide (off+v.cells.size>vals.size))=false:=by
     simp
     omega
    have hset:=aMB v.cells.toList vals off (by simp;omega)
    simp only[cz] at hset
    have hne:¬ (v.cells.size≠size\/off+v.cells.size>vals.size):=by omega
    have hlv:v.cells.toList.length=size:=by simp;omega
    obtain⟨o,ho,h2,h3⟩:=ih (vals:=v.cells.zipIdx.foldl (λcs (c,j)=>cs.setIfInBounds (off+j) c) vals) h
     (by
      rw[hset,hlv]
      have e:(off+size)=off+size:=rfl
      exact ((hc.takeN off).append hx).append (hc.dropN (off+size)))
     (by
      rw[hset]
      intro u hu
      simp only[br] at hu
      rcases hu with (hu|hu)|hu
      .exact h1 u (abX hu)
      .exact hx1 u hu
      .exact h1 u (dX hu))
    refine⟨o,?_,h2,h3⟩
    rw[← ho]
    simp[hne]
   .cases h
theorem ag7(l:List Value):aP k ow (l.map aa5) l:=by
 induction l with
 | nil=>simp[aP]
 | cons v r ih=>simp only[bc,aP];exact⟨v,r,rfl,atX k ow v,ih⟩
theorem aAe{t:Nat}{d:TD}{qs:List (Nat×List X)}{ps:Array (Nat×Value)}{fs:Array Field}{xs:List X}(hT:TT.of P t=some d)(hd:d.und=.struct fs)
  (hp:RepParts k ow qs ps.toList) (h:aah (λi=>d.fields[i]?) (fj d) qs=some xs):∃ u,(Instr.build t ps).run P w=.ok u w/\aE k ow (.agg xs) u:=by
 have ok:=TT.of_ok hT
 obtain⟨z,hz,hz2⟩:=ok.run_zero w
 have hru:=ok.run_und w
 rw[hd] at hru
 have hfl:=ok.fields
 rw[hd] at hfl
 obtain⟨o,ho,h2,h3⟩:=amO (k:=k) (ow:=ow) (λi=>d.fields[i]?) (vals:=z.cells) hp h (by rw[hz2];exact ag7 _) (by rw[hz2];exact ok.one)
 refine⟨.agg o,?_,by simp only[aE];exact⟨o.toList,rfl,h3,h2⟩⟩
 have hpl:(λx:Nat=>d.fields.toArray[x]?)=λi=>d.fields[i]?:=by funext i;simp
 simp only[fieldsOf] at hfl
 simp[Instr.build,hz,hru,Array.mapM_eq_mapM_toList,run_places w _ _ hfl,ho]
theorem ao8{t e n:Nat}{d de:TD}{qs:List (Nat×List X)}{ps:Array (Nat×Value)}{xs:List X}(hT:TT.of P t=some d)(hd:d.und=.array n e)(hE:TT.of P e=some de)
  (hp:RepParts k ow qs ps.toList) (h:aah (λi=>some (i*de.size,de.size)) (fj d) qs=some xs):∃ u,(Instr.build t ps).run P w=.ok u w/\aE k ow (.agg xs) u:=by
 have ok:=TT.of_ok hT
 obtain⟨z,hz,hz2⟩:=ok.run_zero w
 have hru:=ok.run_und w
 rw[hd] at hru
 obtain⟨o,ho,h2,h3⟩:=amO (k:=k) (ow:=ow) (λi=>some (i*de.size,de.size)) (vals:=z.cells) hp h (by rw[hz2];exact ag7 _) (by rw[hz2];exact ok.one)
 refine⟨.agg o,?_,by simp only[aE];exact⟨o.toList,rfl,h3,h2⟩⟩
 simp[Instr.build,hz,hru,(TT.of_ok hE).run_size,ho]
theorem apd(zs:List Value)(d:Value):∀ n,(List.range (n*zs.length)).map (λi=>zs.getD (i % zs.length) d)=(List.replicate n zs).flatten
 | 0=>by simp
 | n+1=>by
  have ih:=apd zs d n
  have hz:(List.range zs.length).map (λi=>zs.getD (i % zs.length) d)=zs:=by
   apply List.ext_getElem aT
   intro i h1 h2
   simp at h1
   simp[Nat.mod_eq_of_lt h1,h1]
  have hs:(n+1)*zs.length=zs.length+n*zs.length:=by rw[adN,abW,ey]
  rw[hs,List.range_add,bX,hz,agY,List.replicate_succ,ahi,← ih]
  congr 1
  apply ff
  intro i _
  simp
theorem Sim.row(h:Sim M0 k ow done w0 w N s tmps){row:Option Nat}{w':World}{v':Value}{e z n':Nat}{us:List Value}{cs:List C}{c ix i:Nat}
  (hrow:∀ g,row=some g->agq M0.mod w0 g/\(∀ r,k.μ r=some g->fG s.objs 0 r)/\(∀ t v e z n,ow t=some (v,e,z,n)->v.ownBlock≠some g)/\∀ o u,k.m g o=some u->us[o]?=some u)
  (hg:w.grownBy w' row) (hown:w'.ownsRow 0 e z v' n' us) (hv:v'.ownBlock=row\/(v'.ownBlock=some w.heap.size/\row=none))
  (hcs:bu k.m cs us) (h1:∀ u∈us,u.oneCell'=true) (ht:ow (.nm c ix i)=none) (hf:c<s.clk\/(c=s.clk/\done ix)) :
  ∃ k',k.le k'/\Sim M0 k' (ow.add (.nm c ix i) (v',e,z,n')) done w0 w' N s tmps/\aE k' (ow.add (.nm c ix i) (v',e,z,n')) (.own (.nm c ix i) e z cs n') v':=by
 have hmlt:∀ b o u,k.m b o=some u->b<w.heap.size:=λb o u hm=>agt h.mem hm
 let k':Know:={m:=λb o=>if some b=v'.ownBlock then us[o]? else k.m b o,μ:=k.μ}
 have hm':∀ b o,k'.m b o=if some b=v'.ownBlock then us[o]? else k.m b o:=λ_ _=>rfl
 have hle:k.le k':=by
  refine⟨λb o u hm=>?_,λ_ _ h=>h⟩
  rw[hm']
  split
  .rename_i hb
   rcases hv with hv|⟨hv,_⟩
   .exact (hrow b (by rw[← hv,← hb])).2.2.2 o u hm
   .rw[hv] at hb
    have:=hmlt b o u hm
    simp only[ab] at hb
    omega
  .exact hm
 have hbw:Keeps M0.mod w0 w':=⟨hg.os.trans h.below.os,hg.tape.trans h.below.tape,hg.output.trans h.below.output,fx h.below.size hg.size,
  λb hb hm=>(hg.block b (cq hb h.below.size) (λe=>by rcases (hrow b e.symm).1 with h1|h1;omega;exact hm h1)).trans (h.below.block b hb hm)⟩
 have hblk:∀ b,b<w.heap.size->some b≠row->w'.heap[b]?=w.heap[b]?:=hg.block
 have hmem:∀ b o u,k'.m b o=some u->w'.cell? ⟨b,o,none⟩=some u/\u.oneCell'=true:=by
  intro b o u hm
  rw[hm'] at hm
  split at hm
  .rename_i hb
   refine⟨?_,h1 u (bO hm)⟩
   have:=hown.cells (g:=b) hb.symm o u hm
   rwa [Addr.add_lit,bK] at this
  .rename_i hb
   obtain⟨g1,g2⟩:=h.mem b o u hm
   have hlt:=hmlt b o u hm
   have hne:some b≠row:=by
    rcases hv with hv|⟨_,hv⟩
    .rw[← hv];exact hb
    .rw[hv];simp
   exact⟨(World.cell?_of_block (a:=⟨b,o,none⟩) (hblk b hlt hne)).trans g1,g2⟩
 have hnew:∀ g,v'.ownBlock=some g->agq M0.mod w0 g/\(∀ r,k.μ r=some g->fG s.objs 0 r)/\(∀ t v e z n,ow t=some (v,e,z,n)->v.ownBlock≠some g):=by
  intro g hgo
  rcases hv with hv|⟨hv,_⟩
  .obtain⟨a,b,c,_⟩:=hrow g (by rw[← hv,hgo]);exact⟨a,b,c⟩
  .have e1:g=w.heap.size:=ay (hgo.symm.trans hv)
   subst e1
   refine⟨.inl h.below.size,λr hr=>?_,λt v e z n ho hb=>?_⟩
   .have:=(h.lt hr).2.1
    exact absurd this aC
   .have:=(h.tlt ho hb).2
    omega
 have hSim:Sim M0 k' ow done w0 w' N s tmps:={
  good:=h.good
  size:=h.size
  cells:=h.cells
  below:=hbw
  fr:=λj=>aE.mono hle (λ_ _ h=>h) _ _ (h.fr j)
  mem:=hmem
  obj:=λr ob hr=>by
   obtain⟨b,g1,g2,g3,g4,g5⟩:=h.obj r ob hr
   refine⟨b,g1,g2,cq g3 hg.size,λhl o=>?_,?_⟩
   .have hnb:some b≠v'.ownBlock:=λe=>ahy ((hnew b e.symm).2.1 r g1) ⟨ob,hr,hl⟩
    rw[hm',ar hnb];exact g4 hl o
   .by_cases e:some b=row
    .obtain⟨ty,cs,q1,q2⟩:=(hrow b e.symm).2.1 r g1
     obtain rfl:=ay (q1.symm.trans hr)
     exact .inl (bP aC)
    .exact (g5.keep (hblk b g3 e)).mono hle (λ_ _ h=>h)
  dom:=h.dom
  inj:=h.inj
  tok:=λt v e z n ht=>by
   obtain⟨⟨xs,g1⟩,g2⟩:=h.tok t v e z n ht
   refine⟨⟨xs,acK (λg hgo hlt=>hblk g hlt (λe=>(hrow g e.symm).2.2.1 t v _ _ _ ht hgo)) g1⟩,λg hgo=>⟨(g2 g hgo).1,λo ho=>?_,(g2 g hgo).2.2⟩⟩
   rw[hm',ar (λe=>(hnew g e.symm).2.2 t v _ _ _ ht hgo)]
   exact (g2 g hgo).2.1 o ho
  tokne:=h.tokne
  fresh:=h.fresh
  m0:=λb o u hm hb hmd=>by
   rw[hm',ar (λe=>by rcases (hnew b e.symm).1 with h1|h1;omega;exact hmd h1)] at hm
   exact h.m0 b o u hm hb hmd}
 refine⟨k',hle,hSim.add ht hown (λg hgo=>⟨(hnew g hgo).1,λo ho=>?_,(hnew g hgo).2.1⟩) (λt' v2 e2 z2 n2 h2 g hgo=>(hnew g hgo).2.2 t' v2 e2 z2 n2 h2) hf,?_⟩
 .rw[hm',au hgo.symm]
  rw[aX]
  rw[hown.1]
  exact ho
 .have hlen:=hcs.length
  have hk2:=bu.mono hle.1 _ _ hcs
  simp only[aE,Rep]
  refine⟨by simp[Own.add],by rw[← hlen,hown.1],?_⟩
  rcases hown.2 with ⟨rfl,rfl⟩|⟨g,cap,cur,rfl,_,_,hcap,_,_,_⟩
  .have:us=[]:=bP (by rw[hown.1];simp)
   subst this
   exact⟨none,0,[],rfl,ae _,hk2,λh=>absurd rfl h⟩
  .refine⟨some ⟨g,0,none⟩,cap,us,rfl,hcap,hk2,λ_=>⟨g,0,rfl,λi u hu=>?_⟩⟩
   rw[hm']
   simp only[Value.ownBlock,am,bK]
   exact hu
end
def ams(us:List Value):Value:=match us with
 | [u]=>u
 | us=>.tuple us.toArray
def ahT(pan:Bool)(us:List Value)(e:Ending):Prop:=match pan with
 | false=>e=.returned (ams us)
 | true=>∃ u,us=[u]/\e=.panicked [{v:=u,recovered:=false}]
def abK(k:Know)(ow:Own)(b:Nat):Prop:=(∃ r,k.μ r=some b)\/∃ t v e z n,ow t=some (v,e,z,n)/\v.ownBlock=some b
def aa9(P:Program)(G:GP)(f:Nat)(xs:List X)(obs:List Ob)(an:An):Prop :=
 ∀ fn,P.funcs[f]?=some fn->∀ (k:Know) (ow:Own) (w:World) (vs:List Value),Hp ⟨G,k.m,abK k ow⟩ k ow w w obs ->
  (∀ t p,ow t=some p->t.older 1 λ_=>False)->(∀ r off p,ow (.cell r off)=some p->r<obs.length)->aP k ow xs vs ->
  Calls P f vs.toArray w λe w'=>∃ k' ow' us,ahT an.pan us e/\Hp ⟨G,k.m,abK k ow⟩ k' ow' w w' an.obs/\k.m.le k'.m/\obs.length<=an.obs.length/\(∀ r,r<obs.length->k'.μ r=k.μ r) /\
   (∀ t p,ow' t=some p->t.older 1 λ_=>False)/\(∀ r off p,ow' (.cell r off)=some p->r<an.obs.length)/\aP k' ow' an.rs us
section
variable {P:Program} {M0:Base} {k:Know} {ow:Own} {done:Nat->Prop} {w0 w:World} {N:Nat} {s:S} {tmps:Array Value}
theorem aqf(hs:Sim M0 k ow done w0 w N s tmps){t e n:Nat}{d:TD}{qs:List (Nat×List X)}{ps:Array (Nat×Value)}{xs:List X}{cs:List C}{c ix i:Nat}
  (he:elemOf (TT.of P) t=some (e,d)) (hn:n*d.size<=16777216) (hz:0<d.size) (hp:RepParts k ow qs ps.toList)
  (h:aah (λi=>some (i*d.size,d.size)) ((List.replicate n (fj d)).flatten) qs=some xs) (hcs:X.rds xs=some cs) (ht:ow (.nm c ix i)=none) (hf:c<s.clk\/(c=s.clk/\done ix)) :
  ∃ u w' k' ow',(Instr.buildSlice t n ps).run P w=.ok u w'/\k.le k'/\Sim M0 k' ow' done w0 w' N s tmps/\aE k' ow' (.own (.nm c ix i) e d.size cs n) u:=by
 obtain⟨hund,hd⟩:=ahO he
 have ok:=TT.of_ok hd
 have hru:=aiE (w:=w) hund
 obtain⟨z,hzr,hz2⟩:=ok.run_zero w
 have hzl:z.cells.toList.length=d.size:=by rw[hz2];exact ok.len
 let zs:Array Value:=if n*d.size=0 then #[] else z.cells
 let vals:Array Value:=(Array.range (n*d.size)).map λi=>zs[i % zs.size]!
 have hvals:vals.toList=(List.replicate n d.zero).flatten:=by
  by_cases h0:n*d.size=0
  .have hn0:n=0:=by rcases aaH n with g|g;exact g;have:=ahH g hz;omega
   subst hn0
   simp[vals]
  .have hzs:zs=z.cells:=by simp only[zs,ar h0]
   have hr:=apd d.zero default n
   have hsz:zs.size=d.size:=by rw[hzs];simpa using hzl
   rw[← hr,ok.len]
   simp only[vals,adb,Array.toList_range]
   apply ff
   intro i _
   rw[hsz]
   have hlt:i % d.size<d.size:=Nat.mod_lt _ hz
   have h1:i % d.size<zs.size:=by rw[hsz];exact hlt
   rw[getElem!_pos zs _ h1]
   have:zs.toList=d.zero:=by rw[hzs];exact hz2
   rw[aW,← this]
   simp[h1]
 have hz1:∀ u∈vals.toList,u.oneCell'=true:=by
  rw[hvals]
  intro u hu
  obtain⟨l,hl,hul⟩:=List.mem_flatten.1 hu
  rw[List.mem_replicate] at hl
  exact ok.one u (hl.2▸hul)
 have hzx:aP k ow ((List.replicate n (fj d)).flatten) vals.toList:=by
  rw[hvals]
  clear hvals hz1 h hn
  induction n with
  | zero=>simp[aP]
  | succ n ih =>
   simp only[List.replicate_succ,ahi]
   exact (ag7 _).append ih
 obtain⟨o,ho,h2,h3⟩:=amO (k:=k) (ow:=ow) _ hp h hzx hz1
 have hcl:=aj2 _ _ _ hcs h2
 have hol:o.size=n*d.size:=by
  have e1:=h2.length
  have e2:∀ (qs:List (Nat×List X)) (cells r:List X),aah (λi=>some (i*d.size,d.size)) cells qs=some r->r.length=cells.length:=by
   intro qs
   induction qs with
   | nil=>intro cells r hr;simp only[aah,ab] at hr;rw[hr]
   | cons q qs ih =>
    intro cells r hr
    obtain⟨i,xs⟩:=q
    simp only[aah] at hr
    split at hr
    .rename_i hc
     rw[ih _ _ hr]
     simp
     omega
    .cases hr
  have e3:=e2 _ _ _ h
  have e4:((List.replicate n (fj d)).flatten).length=n*d.size:=by
   simp[List.length_flatten,fj,ok.len]
  simp only[ep] at e1
  omega
 have hrow:(w.alloc (.cells o e)).ownsRow 0 e d.size (.slice (some ⟨w.heap.size,0,none⟩) n n) n o.toList :=
  ⟨by simpa using hol,.inr ⟨w.heap.size,n,o,rfl,aU _,heap_alloc_new w _,ae _,by
   have:n<=n*d.size:=Nat.le_mul_of_pos_right n hz
   simp only[maxLen];omega,hol,by rw[aaB (by simp;omega)]⟩⟩
 obtain⟨k',g1,g2,g3⟩:=hs.row (row:=none) (w':=w.alloc (.cells o e)) (c:=c) (ix:=ix) (i:=i) (λg hg=>by cases hg) (World.grownBy_alloc w _ none) hrow (.inr ⟨rfl,rfl⟩) hcl h3 ht hf
 refine⟨_,_,k',_,?_,g1,g2,g3⟩
 have hvdef:(Array.map (λx=>(if n*d.size=0 then #[] else z.cells)[x % (if n*d.size=0 then (#[]:Array Value) else z.cells).size]!) (Array.range (n*d.size)))=vals:=rfl
 by_cases h0:n*d.size=0
 .simp only[Instr.buildSlice,Sem.run_bind,hru,Result.andThen_ok,ok.run_size,h0,ar (show ¬ (0:Nat)>2 ^ 24 by omega),Sem.run_pure,am]
  have hv0:vals=Array.map (λx=>(#[]:Array Value)[x % (#[]:Array Value).size]!) (Array.range 0):=by simp only[vals,zs,h0,am]
  rw[hv0] at ho
  rw[ho]
  rfl
 .simp only[Instr.buildSlice,Sem.run_bind,hru,Result.andThen_ok,ok.run_size,ar (show ¬ n*d.size>2 ^ 24 by omega),Sem.run_pure,h0,av,hzr]
  have hv0:vals=Array.map (λx=>z.cells[x % z.cells.size]!) (Array.range (n*d.size)):=by simp only[vals,zs,h0,av]
  rw[hv0] at ho
  rw[ho]
  rfl
theorem ai4{t ty e:Nat}{d:TD}(hund:P.underlying t=some (.slice e))(hd:TT.of P e=some d)(hz:0<d.size){B:Nat}{v:Value}{n:Nat}{xs:List Value}(hown:w.ownsRow B e d.size v n xs)
  {A:Option Addr} {m c:Nat} {news:List Value} (hl:news.length=m*d.size) (hA:news≠[]->∃ b o,A=some ⟨b,o,none⟩/\∀ i u,news[i]?=some u->w.cell? ⟨b,o+i,none⟩=some u)
  (h1:∀ u∈news,u.oneCell'=true) (hLIM:n+m<=LIM) (hby:d.bytes<=32768) (hbase:B<=w.heap.size) :
  ∃ v' w',(Builtin.append_ #[t,t] ty #[v,.slice A m c]).run P w=.ok v' w'/\w'.ownsRow B e d.size v' (n+m) (xs++news) /\
   ((w.grownBy w' v.ownBlock/\v'.ownBlock=v.ownBlock)\/(w.grownBy w' none/\v'.ownBlock=some w.heap.size)):=by
 obtain⟨i,hi,hsz,hbi,z,hzz,hzl,_⟩:=(TT.of_ok hd).info
 have hzsz:z.cells.size=i.size:=by
  have:=(TT.of_ok hd).len
  rw[← hzl] at this
  rw[hsz]
  simpa using this
 unfold LIM at hLIM
 have hbytes:(n+m)*i.bytes<=140737488355328:=by
  rw[hbi]
  have:(n+m)*d.bytes<=4294967296*32768:=Nat.mul_le_mul hLIM hby
  omega
 have h63:n+m<=maxLen:=by simp only[maxLen];omega
 have hlen:(xs++news).length=(n+m)*d.size:=by rw[bg,hown.1,hl,adN]
 by_cases hm:m=0
 .subst hm
  have hn:news=[]:=bP (by simpa using hl)
  subst hn
  refine⟨v,w,?_,by simpa using hown,.inl ⟨⟨rfl,rfl,rfl,ae _,λ_ _ _=>rfl⟩,rfl⟩⟩
  have hf:(Builtin.firstCells d.size 0 (.slice A 0 c)).run P w=.ok #[] w:=by
   cases A <;> simp[Builtin.firstCells,loadCells,loadCellsFrom]
  rcases hown.2 with ⟨rfl,rfl⟩|⟨g,cap,cur,rfl,_,_,hcap,_⟩
  .simp[Builtin.append_,run_underlying hund,(TT.of_ok hd).run_size,Builtin.lenOf,hf]
  .simp[Builtin.append_,run_underlying hund,(TT.of_ok hd).run_size,Builtin.lenOf,hf,hcap,storeCells]
 .have hne:news≠[]:=by
   intro e0
   rw[e0] at hl
   have:0<m*d.size:=ahH aC hz
   simp at hl
   omega
  obtain⟨b,o,rfl,hcells⟩:=hA hne
  have hnews:∀ j u,news[j]?=some u->w.cell? ((⟨b,o,none⟩ : Addr).add j)=some u:=λj u hu=>by rw[Addr.add_lit];exact hcells j u hu
  have grown:∀ (old:Nat),old<n+m ->
    (w.drew.alloc (.cells (xs.toArray++news.toArray++Builtin.zeroCells z.cells (grownCap w (n+m) old e-(n+m))) e)).ownsRow B e d.size
     (.slice (some ⟨w.heap.size,0,none⟩) (n+m) (grownCap w (n+m) old e)) (n+m) (xs++news) /\
    w.grownBy (w.drew.alloc (.cells (xs.toArray++news.toArray++Builtin.zeroCells z.cells (grownCap w (n+m) old e-(n+m))) e)) none:=by
   intro old ho
   have hge:=grownCap_ge w (n+m) old e
   have hcm:grownCap w (n+m) old e<=maxLen:=grownCap_le_maxLen w (n+m) old e h63
   refine⟨⟨hlen,.inr ⟨w.heap.size,_,_,rfl,hbase,heap_alloc_new w.drew _,hge,hcm,?_,?_⟩⟩,⟨rfl,rfl,rfl,by simp,λk hk _=>Go.RowKit.Below.heap_alloc w.drew _ k hk⟩⟩
   .simp only[Array.size_append,dD,size_zeroCells,hzsz,hsz,hown.1,hl,← adN]
    congr 1
    omega
   .simp only[aat,fH]
    rw[← fH,← hlen]
    exact acL
  rcases hown.2 with ⟨rfl,rfl⟩|⟨g,cap,cur,rfl,hbg,hg,hnc,hcm,hcs,htake⟩
  .have hx:xs=[]:=bP (by simpa using hown.1)
   subst hx
   have hr:=run_append_nil (P:=P) w t ty e i z hund hi hzz ⟨b,o,none⟩ m c news (by rw[hsz];exact hl) hnews aC aC (by have hb:=hbytes;simp only[bK] at hb;omega)
   have hgr:=grown 0 aC
   simp only[bK,ch,aaI] at hgr ⊢
   exact⟨_,_,hr,hgr.1,.inr ⟨hgr.2,rfl⟩⟩
  .by_cases hroom:n+m<=cap
   .have hfit:n*i.size+news.length<=cur.size:=by rw[hl,hcs,hsz,← adN];exact Nat.mul_le_mul_right _ hroom
    have hr:=run_append_room (P:=P) w t ty e i hund hi g n cap cur hg ⟨b,o,none⟩ m c news (by rw[hsz];exact hl) hnews h1 hroom hfit
    refine⟨_,_,hr,⟨hlen,.inr ⟨g,cap,_,rfl,hbg,setRow_heap w g cur _ e _ hg,hroom,hcm,?_,?_⟩⟩,.inl ⟨⟨rfl,rfl,rfl,by simp,λk hk hkg=>setRow_other w g k _ (λe=>hkg (by simp[Value.ownBlock,e]))⟩,rfl⟩⟩
    .rw[hsz] at hfit
     simp only[dD,bg,ac7,cP,ep,hsz]
     omega
    .rw[hsz,htake,← hlen]
     exact acL
   .have holds:∀ j u,xs[j]?=some u->w.cell? ((⟨g,0,none⟩ : Addr).add j)=some u:=hown.cells (g:=g) rfl
    have hr:=run_append_grow (P:=P) w t ty e i z hund hi hzz ⟨g,0,none⟩ n cap xs (by rw[hsz];exact hown.1) holds ⟨b,o,none⟩ m c news (by rw[hsz];exact hl) hnews aC aC (growslice_fits aC hbytes)
    have hgr:=grown cap aC
    exact⟨_,_,hr,hgr.1,.inr ⟨hgr.2,rfl⟩⟩
theorem ao7{t u ty e:Nat}{d:TD}(hund:P.underlying t=some (.slice e))(hu:P.underlying u=some .string)(hd:TT.of P e=some d)(hz:d.size=1){B:Nat}{v:Value}{n:Nat}{xs:List Value}(hown:w.ownsRow B e d.size v n xs)
  (s:ByteArray) (hLIM:n+s.size<=LIM) (hby:d.bytes<=32768) (hbase:B<=w.heap.size) :
  ∃ v' w',(Builtin.append_ #[t,u] ty #[v,.string s]).run P w=.ok v' w'/\w'.ownsRow B e d.size v' (n+s.size) (xs++Lib.strCells s) /\
   ((w.grownBy w' v.ownBlock/\v'.ownBlock=v.ownBlock)\/(w.grownBy w' none/\v'.ownBlock=some w.heap.size)):=by
 obtain⟨i,hi,hsz,hbi,z,hzz,hzl,_⟩:=(TT.of_ok hd).info
 have hi1:i.size=1:=hsz.trans hz
 have hzsz:z.cells.size=i.size:=by
  have:=(TT.of_ok hd).len
  rw[← hzl] at this
  rw[hsz]
  simpa using this
 unfold LIM at hLIM
 have hbytes:(n+s.size)*i.bytes<=140737488355328:=by
  rw[hbi]
  have:(n+s.size)*d.bytes<=4294967296*32768:=Nat.mul_le_mul hLIM hby
  omega
 have hxl:xs.length=n:=by have:=hown.1;rw[hz] at this;simpa using this
 have h63:n+s.size<=maxLen:=by simp only[maxLen];omega
 have hlen:(xs++Lib.strCells s).length=(n+s.size)*d.size:=by rw[bg,hxl,Lib.strCells_length,hz,adM]
 by_cases hm:s.size=0
 .have hn:Lib.strCells s=[]:=bP (by rw[Lib.strCells_length];exact hm)
  rw[hn,hm]
  refine⟨v,w,?_,by simpa using hown,.inl ⟨⟨rfl,rfl,rfl,ae _,λ_ _ _=>rfl⟩,rfl⟩⟩
  have hf:(Builtin.firstCells 1 0 (.string s)).run P w=.ok #[] w:=by
   have:=Lib.run_firstCells_string (P:=P) w 1 s
   rw[hm,hn] at this
   exact this
  rcases hown.2 with ⟨rfl,rfl⟩|⟨g,cap,cur,rfl,_,_,hcap,_⟩
  .simp[Builtin.append_,run_underlying hund,run_underlying hu,sizeOf,typeInfo,hi,hi1,Builtin.lenOf,hm,hf]
  .simp[Builtin.append_,run_underlying hund,run_underlying hu,sizeOf,typeInfo,hi,hi1,Builtin.lenOf,hm,hf,hcap,storeCells]
 .have grown:∀ (old:Nat),old<n+s.size ->
    (w.drew.alloc (.cells (xs.toArray++(Lib.strCells s).toArray++Builtin.zeroCells z.cells (grownCap w (n+s.size) old e-(n+s.size))) e)).ownsRow B e d.size
     (.slice (some ⟨w.heap.size,0,none⟩) (n+s.size) (grownCap w (n+s.size) old e)) (n+s.size) (xs++Lib.strCells s) /\
    w.grownBy (w.drew.alloc (.cells (xs.toArray++(Lib.strCells s).toArray++Builtin.zeroCells z.cells (grownCap w (n+s.size) old e-(n+s.size))) e)) none:=by
   intro old ho
   have hge:=grownCap_ge w (n+s.size) old e
   have hcm:grownCap w (n+s.size) old e<=maxLen:=grownCap_le_maxLen w (n+s.size) old e h63
   refine⟨⟨hlen,.inr ⟨w.heap.size,_,_,rfl,hbase,heap_alloc_new w.drew _,hge,hcm,?_,?_⟩⟩,⟨rfl,rfl,rfl,by simp,λk hk _=>Go.RowKit.Below.heap_alloc w.drew _ k hk⟩⟩
   .simp only[Array.size_append,dD,size_zeroCells,hzsz,hi1,hz,hxl,Lib.strCells_length,adM]
    omega
   .simp only[aat,fH]
    rw[← fH,← hlen]
    exact acL
  rcases hown.2 with ⟨rfl,rfl⟩|⟨g,cap,cur,rfl,hbg,hg,hnc,hcm,hcs,htake⟩
  .have hx:xs=[]:=bP hxl
   subst hx
   have hr:=run_append_nil_string (P:=P) w t u ty e i z hund hu hi hzz s aC aC (by have hb:=hbytes;simp only[bK] at hb;omega)
   have hgr:=grown 0 aC
   have he:s.data.map (λb=>Value.int .u8 b.toNat)=(Lib.strCells s).toArray:=by
    apply aga
    simp[Lib.strCells]
   rw[he] at hr
   simp only[bK,ch,aaI] at hgr ⊢
   exact⟨_,_,hr,hgr.1,.inr ⟨hgr.2,rfl⟩⟩
  .by_cases hroom:n+s.size<=cap
   .have hfit:n+s.size<=cur.size:=by rw[hcs,hz,adM];exact hroom
    have hr:=Lib.run_append_room_string (P:=P) w t u ty e i hund hu hi hi1 g n cap cur hg s hroom hfit
    refine⟨_,_,hr,⟨hlen,.inr ⟨g,cap,_,rfl,hbg,setRow_heap w g cur _ e _ hg,hroom,hcm,?_,?_⟩⟩,.inl ⟨⟨rfl,rfl,rfl,by simp,λk hk hkg=>setRow_other w g k _ (λe=>hkg (by simp[Value.ownBlock,e]))⟩,rfl⟩⟩
    .simp only[dD,bg,ac7,cP,ep,Lib.strCells_length]
     omega
    .have ht:cur.toList.take n=xs:=by have:=htake;rw[hz,adM] at this;exact this
     rw[ht,← hlen]
     exact acL
   .have holds:∀ j u,xs[j]?=some u->w.cell? ((⟨g,0,none⟩ : Addr).add j)=some u:=hown.cells (g:=g) rfl
    have hr:=Lib.run_append_grow_string (P:=P) w t u ty e i z hund hu hi hzz ⟨g,0,none⟩ n cap xs (by rw[hi1,adM];exact hxl) holds s aC aC (growslice_fits aC hbytes)
    have hgr:=grown cap aC
    exact⟨_,_,hr,hgr.1,.inr ⟨hgr.2,rfl⟩⟩
theorem arK{m:Mem}(s:ByteArray):bu m (akt s) (Lib.strCells s):=by
 unfold akt Lib.strCells
 induction s.data.toList with
 | nil=>simp[bu]
 | cons b l ih =>
  simp only[bc,bu,Rep]
  exact⟨_,_,rfl,⟨rfl,rfl⟩,ih⟩
theorem aGo(hs:Sim M0 k ow done w0 w N s tmps){st xt ty el:Nat}{y:X}{d:TD}{ys:List C}{m:Nat}{vy:Value}(hund:P.underlying st=some (.slice el))(hd:TT.of P el=some d)(hpos:0<d.size)(hsl:aiY (TT.of P) st xt el y=some (ys,m))(hlen:ys.length=m*d.size)(hy:aE k ow y vy) :
  ∃ vs,bu k.m ys vs/\(∀ u∈vs,u.oneCell'=true)/\∀ {B:Nat} {v:Value} {n:Nat} {xs:List Value},w.ownsRow B el d.size v n xs->n+m<=LIM->d.bytes<=32768->B<=w.heap.size ->
   ∃ v' w',(Builtin.append_ #[st,xt] ty #[v,vy]).run P w=.ok v' w'/\w'.ownsRow B el d.size v' (n+m) (xs++vs)/\((w.grownBy w' v.ownBlock/\v'.ownBlock=v.ownBlock)\/(w.grownBy w' none/\v'.ownBlock=some w.heap.size)):=by
 unfold aiY at hsl
 split at hsl
 .rename_i hst
  subst hst
  have hy2:=ao5 hsl hy
  simp only[Rep] at hy2
  obtain⟨A,cap,vs,rfl,hcap,hvl,hm⟩:=hy2
  have hA:vs≠[]->∃ b o,A=some ⟨b,o,none⟩/\∀ i u,vs[i]?=some u->w.cell? ⟨b,o+i,none⟩=some u:=λhne=>by
   obtain⟨b,o,ha,hc⟩:=hm hne
   exact⟨b,o,ha,λi u hu=>(hs.mem _ _ _ (hc i u hu)).1⟩
  have h1:∀ u∈vs,u.oneCell'=true:=λu hu=>by
   have hne:vs≠[]:=by rintro rfl;cases hu
   obtain⟨b,o,ha,hc⟩:=hm hne
   obtain⟨i,hi⟩:=List.mem_iff_getElem?.1 hu
   exact (hs.mem _ _ _ (hc i u hi)).2
  have hvlen:vs.length=m*d.size:=by rw[hvl.length];exact hlen
  exact⟨vs,hvl,h1,λhown hb1 hb2 hB=>ai4 (P:=P) (w:=w) (ty:=ty) hund hd hpos hown hvlen hA h1 hb1 hb2 hB⟩
 .split at hsl
  .rename_i s'
   split at hsl
   .rename_i hc
    simp only[bD] at hsl
    obtain⟨rfl,rfl⟩:=hsl
    simp only[aE,Rep] at hy
    obtain⟨rfl,_⟩:=hy
    have hu:P.underlying xt=some .string:=by
     have:=awK hc.1
     cases hT:TT.of P xt with
     | none=>simp[hT] at this
     | some dd=>simp only[hT,aJ,ab] at this;rw[← this];exact (TT.of_ok hT).und
    obtain⟨dd,hd1,_,hd2⟩:=u8D hc.2
    rw[hd] at hd1
    cases hd1
    exact⟨Lib.strCells s',arK s',Lib.strCells_oneCell s',λhown hb1 hb2 hB=>ao7 (P:=P) (w:=w) (ty:=ty) hund hu hd hd2 hown s' hb1 hb2 hB⟩
   .cases hsl
  .cases hsl
theorem ayI(hs:Sim M0 k ow done w0 w N s tmps){st xt ty:Nat}{x y z:X}{v vy:Value}{c ix i:Nat}{e:Option Tk}(h:dP (TT.of P) (.nm c ix i) st xt x y=some (z,e))(hek:∀ t,e=some t->t.isRow=false)(hx:aE k ow x v)(hy:aE k ow y vy)
  (ht:ow (.nm c ix i)=none) (hf:c<s.clk\/(c=s.clk/\done ix)) :
  ∃ u w' k' ow',(Builtin.append_ #[st,xt] ty #[v,vy]).run P w=.ok u w'/\k.le k'/\Sim M0 k' ow' done w0 w' N (s.drop e) tmps/\aE k' ow' z u:=by
 unfold dP at h
 split at h
 .rename_i el d he
  split at h
  .rename_i ys m hsl
   obtain⟨hund,hd⟩:=ahO he
   have hund':P.underlying st=some (.slice el):=by
    cases hT:TT.of P st with
    | none=>simp[hT] at hund
    | some dd=>simp only[hT,aJ,ab] at hund;rw[← hund];exact (TT.of_ok hT).und
   split at h
   .rename_i hc
    obtain⟨hlen,hpos⟩:=hc
    obtain⟨vs,hvl,h1,hrun⟩:=aGo (ty:=ty) hs hund' hd hpos hsl hlen hy
    split at h
    .-- nil
     split at h
     .rename_i hb
      simp only[bD] at h
      obtain⟨rfl,rfl⟩:=h
      simp only[aE] at hx
      subst hx
      obtain⟨v',w',hr,hown,hcase⟩:=hrun (World.ownsRow_nil w 0 el d.size) (by simpa using hb.1) hb.2 (aU _)
      simp only[bK,ch] at hown
      have hcase':(v'.ownBlock=none\/v'.ownBlock=some w.heap.size)/\w.grownBy w' none:=by
       rcases hcase with ⟨g1,g2⟩|⟨g1,g2⟩
       .exact⟨.inl g2,g1⟩
       .exact⟨.inr g2,g1⟩
      obtain⟨k',g1,g2,g3⟩:=hs.row (row:=none) (w':=w') (v':=v') (c:=c) (ix:=ix) (i:=i) (λg hg=>by cases hg) hcase'.2 hown (hcase'.1.imp id (λh=>⟨h,rfl⟩)) hvl h1 ht hf
      exact⟨v',w',k',_,hr,g1,g2,g3⟩
     .cases h
    .rename_i t' e' z' cs n
     split at h
     .rename_i hb
      obtain⟨rfl,rfl,hb1,hb2⟩:=hb
      simp only[bD] at h
      obtain⟨rfl,rfl⟩:=h
      simp only[aE] at hx
      obtain⟨ho,hcl,hrep⟩:=hx
      obtain⟨⟨xs,hown⟩,htok⟩:=hs.tok _ _ _ _ _ ho
      have hxs:bu k.m cs xs:=by
       simp only[Rep] at hrep
       obtain⟨a,cp,us,rfl,_,hul,hum⟩:=hrep
       have:us=xs:=by
        have e1:us.length=xs.length:=by rw[hul.length,hown.1,hcl]
        apply abF
        intro i
        by_cases hi:i<us.length
        .have hne:us≠[]:=by rintro rfl;simp at hi
         obtain⟨b,o,rfl,hc⟩:=hum hne
         rcases hown.2 with ⟨h0,_⟩|⟨g,cap2,cur,hv,_⟩
         .cases h0
         .simp only[Value.slice.injEq,ab,Addr.mk.injEq] at hv
          obtain⟨⟨rfl,rfl,_⟩,_,rfl⟩:=hv
          have hu:us[i]?=some us[i]:=by simp[hi]
          have hc1:=(hs.mem _ _ _ (hc i _ hu)).1
          have hx2:xs[i]?=some (xs[i]'(by omega)):=by simp[show i<xs.length by omega]
          have hc2:=hown.cells (g:=b) rfl i _ hx2
          rw[Addr.add_lit] at hc2
          rw[hc1] at hc2
          rw[hu,hx2]
          exact hc2
        .rw[aX aC,aX aC]
       rw[← this]
       exact hul
      have hx1:∀ u∈xs,u.oneCell'=true:=by
       intro u hu
       simp only[Rep] at hrep
       obtain⟨a,cp,us,rfl,_,hul,hum⟩:=hrep
       obtain⟨i,hi⟩:=List.mem_iff_getElem?.1 hu
       have hlt:i<xs.length:=by
        rcases aA i xs.length with g|g
        .exact g
        .rw[aX g] at hi;cases hi
       have hne:us≠[]:=by
        rintro rfl
        have e1:=hul.length
        rw[hown.1,← hcl,← e1] at hlt
        simp at hlt
       obtain⟨b,o,rfl,hc⟩:=hum hne
       have hlu:i<us.length:=by rw[hul.length,hcl,← hown.1];exact hlt
       have hc1:=hs.mem _ _ _ (hc i _ (aL hlu))
       rcases hown.2 with ⟨h0,_⟩|⟨g,cap2,cur,hv,_⟩
       .cases h0
       .simp only[Value.slice.injEq,ab,Addr.mk.injEq] at hv
        obtain⟨⟨rfl,rfl,_⟩,_,rfl⟩:=hv
        have hc2:=hown.cells (g:=b) rfl i _ hi
        rw[Addr.add_lit,hc1.1] at hc2
        have:=ay hc2
        rw[← this]
        exact hc1.2
      obtain⟨v',w',hr,hown',hcase⟩:=hrun hown hb1 hb2 (aU _)
      have hsd:=hs.del t' (hek t' rfl)
      have hdead:∀ g,v.ownBlock=some g->∀ r,k.μ r=some g->fG (s.drop (some t')).objs 0 r:=λg hg r hr=>by
       obtain⟨ty,rs,q1,q2⟩:=((htok g hg).2.2 r hr).1
       cases rs with
       | nil=>exact⟨ty,[],by simp[S.drop,bp,q1,Ob.drop],ae _⟩
       | cons a rs =>
        exfalso
        have hnone:=(hs.toHp.lt hr).2.2 ⟨_,q1,rfl⟩
        simp only[Rep] at hrep
        obtain⟨a',cp,us,rfl,_,hul,hum⟩:=hrep
        have hpos':0<us.length:=by rw[hul.length,hcl];simp only[aN] at q2;omega
        have hne:us≠[]:=by rintro rfl;simp at hpos'
        obtain⟨b,o,rfl,hc⟩:=hum hne
        have hc0:=hc 0 _ (aL hpos')
        simp only[Value.ownBlock,ab] at hg
        subst hg
        rw[hnone] at hc0
        cases hc0
      have hcells:∀ g o u,v.ownBlock=some g->k.m g o=some u->(xs++vs)[o]?=some u:=by
       intro g o u hg hm2
       have hlt:o<n*d.size:=by
        rcases aA o (n*d.size) with g1|g1
        .exact g1
        .rw[(htok g hg).2.1 o g1] at hm2;cases hm2
       have hlx:o<xs.length:=by rw[hown.1];exact hlt
       have hc1:=(hs.mem _ _ _ hm2).1
       have hx2:xs[o]?=some (xs[o]'hlx):=by simp[hlx]
       have hc2:=hown.cells hg o _ hx2
       rw[Addr.add_lit,bK,hc1] at hc2
       rw[aZ hlx,hx2]
       exact hc2.symm
      have htk:(ow.del t') (.nm c ix i)=none:=by simp only[Own.del];split;rfl;exact ht
      have hone2:∀ u∈xs++vs,u.oneCell'=true:=λu hu=>by
       rcases br.1 hu with hu|hu
       .exact hx1 u hu
       .exact h1 u hu
      have hne2:∀ g,v.ownBlock=some g->∀ t v2 e z n,(ow.del t') t=some (v2,e,z,n)->v2.ownBlock≠some g:=by
       intro g hg t v2 e2 z2 n2 h2
       simp only[Own.del] at h2
       split at h2
       .cases h2
       .rename_i hne
        exact hs.tokne t' t _ _ _ _ _ _ _ _ ho h2 (bo hne) g hg
      rcases hcase with ⟨g1,g2⟩|⟨g1,g2⟩
      .obtain⟨k',q1,q2,q3⟩:=hsd.row (row:=v.ownBlock) (w':=w') (v':=v') (c:=c) (ix:=ix) (i:=i) (λg hg=>⟨(htok g hg).1,hdead g hg,hne2 g hg,λo u hm2=>hcells g o u hg hm2⟩) g1 hown' (.inl g2) (hxs.append hvl) hone2 htk hf
       exact⟨v',w',k',_,hr,q1,q2,q3⟩
      .obtain⟨k',q1,q2,q3⟩:=hsd.row (row:=none) (w':=w') (v':=v') (c:=c) (ix:=ix) (i:=i) (λg hg=>by cases hg) g1 hown' (.inr ⟨g2,rfl⟩) (hxs.append hvl) hone2 htk hf
       exact⟨v',w',k',_,hr,q1,q2,q3⟩
     .cases h
    .cases h
   .cases h
  .cases h
 .cases h
end
theorem aeL(kind:TypeDesc)(k:Value):∀ (ms:List MapEntry) (es:List (Value×C)) (i:Nat) (r:Option Nat),ms.map (·.key)=es.map (·.1)->aeK kind k es i=some r ->
  (∀ j,r=some j->i<=j/\∃ e,ms[j-i]?=some e/\Instr.findNow kind k ms i=some (some (j,e.val)))/\(r=none->Instr.findNow kind k ms i=some none)
 | [],[],i,r,_,h=>by
  simp only[aeK,ab] at h
  subst h
  exact⟨λj hj=>(by cases hj),λ_=>rfl⟩
 | [],_::_,i,r,hk,_=>by simp at hk
 | _::_,[],i,r,hk,_=>by simp at hk
 | m::ms,e::es,i,r,hk,h=>by
  simp only[bc,fE] at hk
  simp only[aeK] at h
  simp only[Instr.findNow,hk.1]
  split at h
  .rename_i hsn
   simp only[ab] at h
   subst h
   rw[hsn]
   exact⟨λj hj=>by cases hj;exact⟨ae _,m,by simp,rfl⟩,λh=>(by cases h)⟩
  .rename_i hsn
   rw[hsn]
   obtain⟨g1,g2⟩:=aeL kind k ms es (i+1) r hk.2 h
   refine⟨λj hj=>?_,g2⟩
   obtain⟨h1,e',h2,h3⟩:=g1 j hj
   refine⟨by omega,e',?_,h3⟩
   obtain⟨q,rfl⟩ : ∃ q,j=i+1+q:=⟨j-(i+1),by omega⟩
   have e1:i+1+q-i=q+1:=by omega
   have e2:i+1+q-(i+1)=q:=by omega
   rw[e1]
   rw[e2] at h2
   simpa using h2
  .cases h
section
variable {P:Program} {M0:Base} {k:Know} {ow:Own} {done:Nat->Prop} {w0 w:World} {N:Nat} {s:S} {tmps:Array Value}
theorem anI{T:TT}{t et:Nat}{kind:TypeDesc}(h:agD T t=some (kind,et)):∃ d kt d',T t=some d/\d.und=.map kt et/\T kt=some d'/\d'.und=kind/\aoO kind=true:=by
 unfold agD at h
 split at h
 .rename_i kt et' _ _ _ _ _ hT
  split at h
  .rename_i kind' hK
   split at h
   .rename_i hkk
    simp only[bD] at h
    obtain⟨rfl,rfl⟩:=h
    simp only[ap] at hK
    obtain⟨d',h1,h2⟩:=hK
    exact⟨_,kt,d',hT,rfl,h1,h2,hkk⟩
   .cases h
  .cases h
 .cases h
theorem aee{kt:Nat}{kind:TypeDesc}(hu:(underlying kt).run P w=.ok kind w)(hk:aoO kind=true)(b:Bool)(v:Value):(Instr.checkKey b 10000 kt v).run P w=.ok () w:=by
 have:∀ n,(Instr.checkKey b (n+1) kt v).run P w=.ok () w:=λn=>by
  unfold Instr.checkKey
  simp only[Sem.run_bind,hu,Result.andThen_ok]
  cases kind <;> simp[aoO] at hk <;> rfl
 exact this 9999
theorem ags{kt:Nat}{kind:TypeDesc}(hu:(underlying kt).run P w=.ok kind w){v:Value}{ms:List MapEntry}{r:Option (Nat×Value)}(h:Instr.findNow kind v ms 0=some r):(Instr.findKey kt v ms).run P w=.ok r w:=by
 simp only[Instr.findKey,Sem.run_bind,hu,Result.andThen_ok,h,Sem.run_pure]
theorem ahh{x:X}{u v:Value}(h:fu x=some u)(hx:aE k ow x v):v=u:=by
 unfold fu at h
 split at h
 .simp only[ab] at h
  subst h
  simp only[aE,Rep] at hx
  exact hx.1
 .cases h
theorem aFY{et:Nat}{z:X}(h:akB (TT.of P) et=some z)(w:World):∃ u,(zeroValue et).run P w=.ok u w/\aE k ow z u:=by
 unfold akB at h
 split at h
 .rename_i d hT
  have ok:=TT.of_ok hT
  obtain⟨u,h1,h2,h3⟩:=ok.run_zero2 w
  have hrep:aP k ow (fj d) d.zero:=ag7 d.zero
  obtain⟨g1,g2,g3⟩:=ajr hT h hrep ok.one
  refine⟨u,h1,?_⟩
  rw[ok.len.symm,List.take_length] at g3
  cases hagg:d.agg with
  | true =>
   rw[hagg] at h3 g3
   cases u with
   | agg us =>
    simp only[am] at g3
    have:us=d.zero.toArray:=by rw[← h2];simp[Value.cells]
    rw[this]
    exact g3
   | _=>simp[anO] at h3
  | false =>
   rw[hagg] at h3 g3
   have hu:u.cells=#[u]:=by cases u <;> simp_all [anO,Value.cells]
   rw[hu] at h2
   rw[← h2] at g3
   simpa using g3
 .cases h
theorem aHx(hs:Sim M0 k ow done w0 w N s tmps){x:X}{es:List (Value×C)}{v:Value}(h:agE s.objs x=some es)(hx:aE k ow x v) :
  ∃ ms:List MapEntry,ms.map (·.key)=es.map (·.1)/\bu k.m (es.map (·.2)) (ms.map (·.val)) /\
   ((v=.map none/\ms=[])\/∃ r cl,v=.map (some r)/\w.heap[r]?=some (.map ms.toArray cl)):=by
 unfold agE at h
 split at h
 .rename_i r
  split at h
  .rename_i es' hr
   simp only[ab] at h
   subst h
   obtain⟨b,hb,_,_,_,ms,cl,hh,h1,h2⟩:=hs.obj r _ hr
   simp only[aE] at hx
   obtain⟨b',hb',rfl⟩:=hx
   obtain rfl:b'=b:=ay (hb'.symm.trans hb)
   exact⟨ms.toList,h1,h2,.inr ⟨b',cl,rfl,hh⟩⟩
  .cases h
 .simp only[ab] at h
  subst h
  simp only[aE,Rep] at hx
  exact⟨[],rfl,by simp[bu],.inl ⟨hx.1,rfl⟩⟩
 .cases h
theorem axu(hs:Sim M0 k ow done w0 w N s tmps){t:Nat}{x kx y:X}{ok:Bool}{e:Option Tk}{v vk:Value}(h:aei (TT.of P) s.objs t x kx ok=some (y,e))(hx:aE k ow x v)(hkx:aE k ow kx vk) :
  e=none/\∃ u,(Instr.lookup t v vk ok).run P w=.ok u w/\aE k ow y u:=by
 unfold aei at h
 split at h
 .rename_i kind et kv es hty hlit hmap
  obtain⟨d,kt,d',hT,hu,hT',hu',hkk⟩:=anI hty
  have r1:=(TT.of_ok hT).run_und w
  have r2:=(TT.of_ok hT').run_und w
  rw[hu] at r1
  rw[hu'] at r2
  obtain rfl:=ahh hlit hkx
  obtain⟨ms,hk1,hk2,hv⟩:=aHx hs hmap hx
  have pre:∀ r,Instr.findNow kind vk ms 0=some r->(Instr.lookup t v vk ok).run P w=(do
    let (v,ok') ← match r with
     | some (_,v)=>pure (v,true)
     | none=>do pure (← zeroValue et,false)
    pure (if ok then Value.tuple #[v,.bool ok'] else v):Sem Value).run P w:=by
   intro r hr
   have hf:=ags r2 hr
   rcases hv with ⟨rfl,rfl⟩|⟨b,cl,rfl,hh⟩
   .simp only[Instr.lookup,Sem.run_bind,r1,Result.andThen_ok,Sem.run_pure,aee r2 hkk]
    rw[hf]
    rfl
   .simp only[Instr.lookup,Sem.run_bind,r1,Result.andThen_ok,Sem.run_pure,aee r2 hkk,Go.MapKept.run_getObj_map hh]
    rw[hf]
    rfl
  split at h
  .rename_i i hfind
   obtain⟨g1,_⟩:=aeL kind vk ms es 0 _ hk1 hfind
   obtain⟨_,e',he,hnow⟩:=g1 i rfl
   simp only[bE,ap,aY] at h
   obtain⟨y',⟨p,hp,rfl⟩,rfl,rfl⟩:=h
   refine⟨rfl,?_⟩
   rw[pre _ hnow]
   simp only[aeG] at he
   obtain⟨u,hu1,hu2⟩:=hk2.get i p.2 (by simp[hp])
   simp only[bp,he,aJ,ab] at hu1
   subst hu1
   cases ok with
   | true=>exact⟨_,rfl,by simp[aE,aP,Rep,Value.oneCell',hu2]⟩
   | false=>exact⟨_,rfl,by simpa [aE] using hu2⟩
  .rename_i hfind
   obtain⟨_,g2⟩:=aeL kind vk ms es 0 _ hk1 hfind
   have hnow:=g2 rfl
   simp only[bE,ap,aY] at h
   obtain⟨y',⟨z,hz,rfl⟩,rfl,rfl⟩:=h
   refine⟨rfl,?_⟩
   rw[pre _ hnow]
   obtain⟨u,hu1,hu2⟩:=aFY (k:=k) (ow:=ow) hz w
   cases ok with
   | true=>exact⟨_,by simp[hu1];rfl,by simp[aE,aP,Rep,Value.oneCell',hu2]⟩
   | false=>exact⟨_,by simp[hu1];rfl,by simpa [aE] using hu2⟩
  .cases h
 .cases h
end

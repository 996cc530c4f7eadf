/- A part. Conditions: none. -/
import Derived.Shelf.Small.Strs
import Derived.Shelf.Strings.Search3
import Derived.Shelf.Strings.Prefix
import Derived.Shelf.Strings.FuncGrows
import Derived.Test.YtghkmcffifpkeaaGreatProg
import Derived.Maps.AppendAt
set_option linter.all false
set_option maxRecDepth 100000
set_option maxHeartbeats 64000000
theorem Go.fU{a b c:Prop}(xa:a)(xb:b)(xc:c):a/\b/\c:=⟨xa,xb,xc⟩
theorem Go.fV{a b c d:Prop}(xa:a)(xb:b)(xc:c)(xd:d):a/\b/\c/\d:=⟨xa,xb,xc,xd⟩
theorem Go.fW{a b c d e:Prop}(xa:a)(xb:b)(xc:c)(xd:d)(xe:e):a/\b/\c/\d/\e:=⟨xa,xb,xc,xd,xe⟩
theorem Go.fX{a b c d e f:Prop}(xa:a)(xb:b)(xc:c)(xd:d)(xe:e)(xf:f):a/\b/\c/\d/\e/\f:=⟨xa,xb,xc,xd,xe,xf⟩
theorem Go.fY{a b c d e f g:Prop}(xa:a)(xb:b)(xc:c)(xd:d)(xe:e)(xf:f)(xg:g):a/\b/\c/\d/\e/\f/\g:=⟨xa,xb,xc,xd,xe,xf,xg⟩
theorem Go.fZ{a b c d e f g h:Prop}(xa:a)(xb:b)(xc:c)(xd:d)(xe:e)(xf:f)(xg:g)(xh:h):a/\b/\c/\d/\e/\f/\g/\h:=⟨xa,xb,xc,xd,xe,xf,xg,xh⟩
theorem Go.gh{a b c d e f g h i:Prop}(xa:a)(xb:b)(xc:c)(xd:d)(xe:e)(xf:f)(xg:g)(xh:h)(xi:i):a/\b/\c/\d/\e/\f/\g/\h/\i:=⟨xa,xb,xc,xd,xe,xf,xg,xh,xi⟩
theorem Go.aC{p:Prop}(h:p:=by omega):p:=h
theorem Go.aI{p:Prop}(h:p:=by decide):p:=h
theorem Go.aS{p:Prop}(h:p:=by kernel_rfl):p:=h
theorem Go.aT{p:Prop}(h:p:=by simp):p:=h
theorem Go.ai{a b:Prop}(x:a)(y:b):a/\b:=⟨x,y⟩
namespace Go
def abS:=@Array.any_eq_true'
def aa5:=@Array.empty_append
def agH:=@Array.ext'
def bi:=@Array.getD_eq_getD_getElem?
def fD:=@Array.getElem?_modify
def be:=@Array.getElem?_setIfInBounds_ne
def adx:=@Array.getElem?_toList
def eE:=@Array.length_toList
def eL:=@Array.setIfInBounds_comm
def aaD:=@Array.size_setIfInBounds
def cM:=@Array.toArray_toList
def aaQ:=@Array.toList_append
def adw:=@Array.toList_map
def agh:=@Bool.and_assoc
def adv:=@Bool.and_eq_false_iff
def ap:=@Bool.and_eq_true
def cW:=@Bool.and_false
def agW:=@Bool.and_self
def aaw:=@Bool.and_true
def dE:=@Bool.eq_false_or_eq_true
def fm:=@Bool.eq_iff_iff
def dL:=@Bool.false_and
def ah:=@Bool.false_eq_true
def eN:=@Bool.false_or
def cZ:=@Bool.not_eq_true'
def dK:=@Bool.not_false
def db:=@Bool.not_true
def bN:=@Bool.or_eq_true
def aE:=@Bool.or_false
def ahz:=@Bool.or_self
def bj:=@Bool.or_true
def dz:=@Bool.true_and
def acQ:=@Bool.true_eq_false
def eK:=@Bool.true_or
def aaa:=@ByteArray.getElem_eq_getElem_data
def cr:=@Classical.propComplete
def bg:=@Iff.rfl
def abK:=@Int.eq_ofNat_of_zero_le
def ac5:=@Int.le_refl
def acP:=@Int.natCast_nonneg
def fR:=@Int.toNat_natCast
def agV:=@List.all_cons
def ahy:=@List.all_nil
def agU:=@List.any_cons
def fj:=@List.append_assoc
def bd:=@List.append_eq
def df:=@List.append_nil
def fO:=@List.cons.injEq
def cD:=@List.cons_append
def afc:=@List.cons_ne_nil
def aeq:=@List.contains_cons
def aaI:=@List.drop_append_of_le_length
def agf:=@List.drop_drop
def ce:=@List.drop_eq_getElem_cons
def abW:=@List.drop_eq_nil_of_le
def cY:=@List.drop_length
def dB:=@List.drop_of_length_le
def agO:=@List.drop_succ_cons
def acZ:=@List.drop_take
def aaO:=@List.drop_zero
def bK:=@List.eq_nil_of_length_eq_zero
def ab1:=@List.ext_getElem?
def acq:=@List.extract_eq_take_drop
def ahP:=@List.flatten_cons
def adS:=@List.foldl_cons
def aY:=@List.getD_eq_getElem?_getD
def ba:=@List.getElem?_append_left
def bW:=@List.getElem?_append_right
def eY:=@List.getElem?_cons_succ
def dq:=@List.getElem?_cons_zero
def ef:=@List.getElem?_drop
def aM:=@List.getElem?_eq_getElem
def aZ:=@List.getElem?_eq_none
def bo:=@List.getElem?_map
def aeJ:=@List.getElem?_nil
def eu:=@List.getElem?_set_ne
def da:=@List.getElem?_set_self
def adt:=@List.getElem?_toArray
def adu:=@List.getElem_map
def cC:=@List.getElem_mem
def afN:=@List.head?_cons
def bc:=@List.length_append
def aN:=@List.length_cons
def ch:=@List.length_drop
def bR:=@List.length_map
def aW:=@List.length_nil
def dX:=@List.length_singleton
def aag:=@List.length_take
def age:=@List.mapM_cons
def cm:=@List.map_append
def dS:=@List.map_congr_left
def aU:=@List.map_cons
def abc:=@List.map_drop
def adO:=@List.map_map
def bq:=@List.map_nil
def aey:=@List.map_take
def bt:=@List.mem_append
def ach:=@List.mem_append_left
def bp:=@List.mem_cons
def eX:=@List.mem_cons_of_mem
def acO:=@List.mem_cons_self
def bT:=@List.mem_of_getElem?
def dP:=@List.mem_of_mem_drop
def acg:=@List.mem_of_mem_take
def cn:=@List.mem_singleton
def cj:=@List.nil_append
def afM:=@List.nodup_cons
def ab0:=@List.nodup_nil
def cB:=@List.not_mem_nil
def ag4:=@List.set_cons_succ
def dG:=@List.size_toArray
def abf:=@List.sum_append
def dH:=@List.sum_cons
def bX:=@List.sum_nil
def bu:=@List.takeWhile_cons
def ads:=@List.take_append_drop
def acY:=@List.take_left
def afb:=@List.take_length
def aaW:=@List.take_of_length_le
def dm:=@List.take_succ_cons
def abB:=@List.toList_toArray
def bA:=@Nat.add_assoc
def eJ:=@Nat.add_comm
def aea:=@Nat.add_mul
def aaN:=@Nat.add_sub_cancel_left
def aao:=@Nat.add_zero
def aan:=@Nat.eq_zero_or_pos
def abR:=@Nat.exists_eq_succ_of_ne_zero
def afa:=@Nat.le_add_right
def aav:=@Nat.le_max_left
def aaf:=@Nat.le_max_right
def adr:=@Nat.le_of_ble_eq_true
def aaT:=@Nat.le_of_lt
def ae:=@Nat.le_refl
def fJ:=@Nat.le_trans
def cO:=@Nat.lt_irrefl
def cG:=@Nat.lt_of_lt_of_le
def aD:=@Nat.lt_or_ge
def aP:=@Nat.lt_succ_self
def ac4:=@Nat.lt_trichotomy
def aiW:=@Nat.mod_lt
def ad9:=@Nat.mul_one
def ail:=@Nat.mul_pos
def adR:=@Nat.not_lt_zero
def acf:=@Nat.one_mul
def adN:=@Nat.sub_self
def ae9:=@Nat.sub_zero
def cf:=@Nat.zero_add
def aO:=@Nat.zero_le
def abY:=@Nat.zero_mul
def bn:=@Ne.symm
def bD:=@Option.bind_eq_some_iff
def dh:=@Option.bind_some
def abw:=@Option.getD_some
def abr:=@Option.isNone_iff_eq_none
def acH:=@Option.isSome_iff_exists
def ar:=@Option.map_eq_some_iff
def ad8:=@Option.map_map
def aiz:=@Option.map_none
def aG:=@Option.map_some
def ay:=@Option.some.inj
def ab:=@Option.some.injEq
def aik:=@Prod.ext
def aX:=@Prod.mk.injEq
def ajU:=@and_assoc
def cS:=@and_false
def bM:=@and_self
def aaC:=@and_true
def dw:=@beq_iff_eq
def adG:=@bne_iff_ne
def ae8:=@decide_eq_decide
def bw:=@decide_eq_false
def abJ:=@decide_eq_false_iff_not
def ey:=@decide_eq_true
def bf:=@decide_eq_true_eq
def aam:=@decide_false
def aaH:=@decide_true
def ajf:=@dif_pos
def aA:=@eq_false
def aa:=@eq_true
def fH:=@false_and
def aij:=@false_or
def av:=@if_false
def aj:=@if_neg
def am:=@if_pos
def au:=@if_true
def afs:=@iff_false
def aae:=@ne_eq
def abp:=@not_false_eq_true
def aii:=@not_or
def abo:=@not_true_eq_false
def abn:=@of_decide_eq_true
def eV:=@or_false
def acN:=@or_self
def cQ:=@or_true
def cV:=@true_and
def aeX:=fU @bc.{0} @aN.{0} @aW.{0}
def aw0:=ai @cD.{0} @cj.{0}
def abP:=ai @aN.{0} @aW.{0}
def bF:=ai @ab.{0} @aX.{0,0}
end Go
namespace Go.Proofs
open Shelf
def Tryz.lays137_ren:Go.Shelf.Ren:=⟨fun|137=>239|217=>281|266=>301|n=>n,fun|9=>9|5=>5|3=>3|n=>n,fun|n=>n⟩
theorem Tryz.lays137:Go.Proofs.Lays.n137 Tryz.prog Tryz.lays137_ren:={
 mixed:=by kernel_rfl
 f137:=Tryz.func239.trans (congrArg some aS)
 f217:=Tryz.func281.trans (congrArg some aS)
 f266:=Tryz.func301.trans (congrArg some aS)
 t3:=Tryz.underlying3
 a3:=Tryz.isAgg3
 z3:=Tryz.sizeOf3
 v3:=Tryz.zeroValue3
 t5:=Tryz.underlying5
 a5:=Tryz.isAgg5
 z5:=Tryz.sizeOf5
 v5:=Tryz.zeroValue5
 t9:=Tryz.underlying9
 a9:=Tryz.isAgg9
 z9:=Tryz.sizeOf9
 v9:=Tryz.zeroValue9}
open RowKit in
theorem Tryz.strings_IndexByte(s:ByteArray)(c:Int)(w:World) :
  Calls Tryz.prog 239 #[.string s,.int .u8 c] w λe w'=>e=.returned (.int .i64 (Lib.indexByte s.data.toList c.toNat.toUInt8))/\w'=w:=Any.strings_IndexByte Tryz.lays137 s c w
def Tryz.lays144_ren:Go.Shelf.Ren:=⟨fun|144=>283|143=>303|219=>315|217=>281|225=>322|224=>323|267=>324|266=>301|314=>329|n=>n,fun|9=>9|4=>4|3=>3|5=>5|46=>307|146=>310|51=>309|n=>n,fun|1=>0|n=>n⟩
theorem Tryz.lays144:Go.Proofs.Lays.n144 Tryz.prog Tryz.lays144_ren:={
 mixed:=by kernel_rfl
 f143:=Tryz.func303.trans (congrArg some aS)
 f144:=Tryz.func283.trans (congrArg some aS)
 f217:=Tryz.func281.trans (congrArg some aS)
 f219:=Tryz.func315.trans (congrArg some aS)
 f224:=Tryz.func323.trans (congrArg some aS)
 f225:=Tryz.func322.trans (congrArg some aS)
 f266:=Tryz.func301.trans (congrArg some aS)
 f267:=Tryz.func324.trans (congrArg some aS)
 f314:=Tryz.func329.trans (congrArg some aS)
 t3:=Tryz.underlying3
 a3:=Tryz.isAgg3
 z3:=Tryz.sizeOf3
 v3:=Tryz.zeroValue3
 t4:=Tryz.underlying4
 a4:=Tryz.isAgg4
 z4:=Tryz.sizeOf4
 v4:=Tryz.zeroValue4
 t5:=Tryz.underlying5
 a5:=Tryz.isAgg5
 z5:=Tryz.sizeOf5
 v5:=Tryz.zeroValue5
 t9:=Tryz.underlying9
 a9:=Tryz.isAgg9
 z9:=Tryz.sizeOf9
 v9:=Tryz.zeroValue9
 t46:=Tryz.underlying307
 a46:=Tryz.isAgg307
 z46:=Tryz.sizeOf307
 v46:=Tryz.zeroValue307
 t51:=Tryz.underlying309
 a51:=Tryz.isAgg309
 z51:=Tryz.sizeOf309
 v51:=Tryz.zeroValue309
 t146:=Tryz.underlying310
 a146:=Tryz.isAgg310
 z146:=Tryz.sizeOf310
 v146:=Tryz.zeroValue310
 g1:=by kernel_rfl}
open RowKit Lib in
theorem Tryz.strings_Contains(s sub:ByteArray)(m:Int)(w:World)(hs:s.size<4294967281)(hm:w.cell? ⟨0,0,none⟩=some (.int .i64 m)) :
  Calls Tryz.prog 283 #[.string s,.string sub] w λe w'=>e=.returned (.bool (Lib.contains s.data.toList sub.data.toList))/\w'=w:=Any.strings_Contains Tryz.lays144 s sub m w hs hm
def Tryz.laysGw15_ren:Go.Shelf.Ren:=⟨fun|15=>201|20=>263|n=>n,fun|9=>9|23=>219|3=>3|4=>4|0=>0|21=>21|n=>n,fun|n=>n⟩
theorem Tryz.laysGw15:Go.Proofs.LaysGw.n15 Tryz.prog Tryz.laysGw15_ren:={
 mixed:=by kernel_rfl
 f15:=Tryz.func201.trans (congrArg some aS)
 f20:=Tryz.func263.trans (congrArg some aS)
 t0:=Tryz.underlying0
 a0:=Tryz.isAgg0
 z0:=Tryz.sizeOf0
 v0:=Tryz.zeroValue0
 i0:=by kernel_rfl
 t3:=Tryz.underlying3
 a3:=Tryz.isAgg3
 z3:=Tryz.sizeOf3
 v3:=Tryz.zeroValue3
 i3:=by kernel_rfl
 t4:=Tryz.underlying4
 a4:=Tryz.isAgg4
 z4:=Tryz.sizeOf4
 v4:=Tryz.zeroValue4
 i4:=by kernel_rfl
 t9:=Tryz.underlying9
 a9:=Tryz.isAgg9
 z9:=Tryz.sizeOf9
 v9:=Tryz.zeroValue9
 i9:=by kernel_rfl
 t21:=Tryz.underlying21
 a21:=Tryz.isAgg21
 z21:=Tryz.sizeOf21
 v21:=Tryz.zeroValue21
 i21:=by kernel_rfl
 t23:=Tryz.underlying219
 a23:=Tryz.isAgg219
 z23:=Tryz.sizeOf219
 v23:=Tryz.zeroValue219
 i23:=by kernel_rfl}
open RowKit Lib in
def Tryz.lays99_ren:Go.Shelf.Ren:=⟨fun|99=>238|206=>280|n=>n,fun|9=>9|4=>4|3=>3|n=>n,fun|n=>n⟩
theorem Tryz.lays99:Go.Proofs.Lays.n99 Tryz.prog Tryz.lays99_ren:={
 mixed:=by kernel_rfl
 f99:=Tryz.func238.trans (congrArg some aS)
 f206:=Tryz.func280.trans (congrArg some aS)
 t3:=Tryz.underlying3
 a3:=Tryz.isAgg3
 z3:=Tryz.sizeOf3
 v3:=Tryz.zeroValue3
 t4:=Tryz.underlying4
 a4:=Tryz.isAgg4
 z4:=Tryz.sizeOf4
 v4:=Tryz.zeroValue4
 t9:=Tryz.underlying9
 a9:=Tryz.isAgg9
 z9:=Tryz.sizeOf9
 v9:=Tryz.zeroValue9}
open RowKit Lib in
theorem Tryz.strings_HasPrefix(s p:ByteArray)(w:World) :
  Calls Tryz.prog 238 #[.string s,.string p] w λe w'=>e=.returned (.bool (Lib.hasPrefix s.data.toList p.data.toList))/\w'=w:=Any.strings_HasPrefix Tryz.lays99 s p w
open RowKit Lib in
theorem Tryz.strings_IndexFunc_grows(g:Nat)(lb:Array Value)(eg:∀ args w,(callFunc g args).run Tryz.prog w=.ok (.enter g args) w)(p:Nat->Bool)(s:ByteArray)(w:World)(hp:PredGrows Tryz.prog g lb p w) :
  Calls Tryz.prog 201 #[.string s,.func (.func g) #[] lb] w λe w'=>e=.returned (.int .i64 (Lib.idxFunc p true s))/\Below w.heap.size w w':=Any.strings_IndexFunc_grows Tryz.laysGw15 g lb eg p s w hp
end Go.Proofs
namespace Go.Pe
inductive C where
 | any
 | undef
 | lit (v:Value)
 | sl (cs:List C) (n:Nat)
 | ref (cs:List C)
 | fn (f:Nat) (caps:List C)
 | agg (cs:List C)
 | tup (cs:List C)
 | ifc (t:Nat) (c:C)
abbrev ci(n:Int):C:=.lit (.int .i64 n)
abbrev cb(b:Bool):C:=.lit (.bool b)
abbrev aJ(s:ByteArray):C:=.lit (.string s)
def C.cells:C->List C
 | .agg cs=>cs
 | c=>[c]
inductive Tk where
 | nm (clk ix i:Nat)
 | cell (r off:Nat)
 deriving DecidableEq
abbrev abQ(r:Nat):Tk:=.cell r 1099511627776
def Tk.isRow:Tk->Bool
 | .cell _ o=>o == 1099511627776
 | .nm ..=>false
inductive X where
 | of (a:C)
 | nil
 | own (t:Tk) (e z:Nat) (cs:List C) (n:Nat)
 | ptr (r off:Nat)
 | mp (r:Nat)
 | clo (f:Nat) (caps:List X)
 | agg (xs:List X)
 | tup (xs:List X)
 | nw (o:Option Tk) (ty z:Nat)
 | top (r e z:Nat)
abbrev aQ(n:Int):X:=.of (ci n)
abbrev aL(b:Bool):X:=.of (cb b)
abbrev af4(s:ByteArray):X:=.of (aJ s)
inductive Ob where
 | var (ty:Nat) (xs:List X)
 | map (es:List (Value×C))
 | row (ty:Nat) (cs:List C)
def Ob.live:Ob->Bool
 | .row _ []=>false
 | _=>true
mutual
def X.rd:X->Option C
 | .of c=>some c
 | .nil=>some (.sl [] 0)
 | .own _ _ _ cs n=>some (.sl cs n)
 | .agg xs=>(X.rds xs).map .agg
 | _=>none
def X.rds:List X->Option (List C)
 | []=>some []
 | x::r=>match x.rd,X.rds r with
  | some c,some cs=>some (c::cs)
  | _,_=>none
end
def agK(t:Tk):Option Tk->Option Tk
 | some t'=>if t'=t then none else some t'
 | none=>none
mutual
def X.drop(t:Tk):X->X
 | .own t' e z cs n=>if t'=t then .of (.sl cs n) else .own t' e z cs n
 | .clo f caps=>.clo f (X.drops t caps)
 | .agg xs=>.agg (X.drops t xs)
 | .tup xs=>.tup (X.drops t xs)
 | .nw o ty z=>.nw (agK t o) ty z
 | x=>x
def X.drops(t:Tk):List X->List X
 | []=>[]
 | x::r=>x.drop t::X.drops t r
end
def Ob.drop(t:Tk):Ob->Ob
 | .var ty xs=>.var ty (X.drops t xs)
 | o=>o
mutual
def X.tr(σ:Nat->Option Nat)(ρ:Tk->Option Tk):X->X
 | .of c=>.of c
 | .nil=>.nil
 | .own t e z cs n=>match ρ t with
  | some t'=>.own t' e z cs n
  | none=>.of (.sl cs n)
 | .ptr r off=>match σ r with
  | some r'=>.ptr r' off
  | none=>.of .any
 | .mp r=>match σ r with
  | some r'=>.mp r'
  | none=>.of .any
 | .clo f caps=>.clo f (X.trs σ ρ caps)
 | .agg xs=>.agg (X.trs σ ρ xs)
 | .tup xs=>.tup (X.trs σ ρ xs)
 | .nw o ty z=>.nw (o.bind ρ) ty z
 | .top r e z=>match σ r with
  | some r'=>if ρ (abQ r)=some (abQ r') then .top r' e z else .of .any
  | none=>.of .any
def X.trs(σ:Nat->Option Nat)(ρ:Tk->Option Tk):List X->List X
 | []=>[]
 | x::r=>x.tr σ ρ::X.trs σ ρ r
end
def Ob.tr(σ:Nat->Option Nat)(ρ:Tk->Option Tk):Ob->Ob
 | .var ty xs=>.var ty (X.trs σ ρ xs)
 | .map es=>.map es
 | .row ty cs=>.row ty cs
mutual
def X.refs:X->List Nat
 | .ptr r _=>[r]
 | .mp r=>[r]
 | .top r _ _=>[r]
 | .clo _ caps=>X.refsL caps
 | .agg xs=>X.refsL xs
 | .tup xs=>X.refsL xs
 | _=>[]
def X.refsL:List X->List Nat
 | []=>[]
 | x::r=>x.refs++X.refsL r
end
mutual
def X.toks:X->List Tk
 | .own t _ _ _ _=>[t]
 | .clo _ caps=>X.toksL caps
 | .agg xs=>X.toksL xs
 | .tup xs=>X.toksL xs
 | .nw o _ _=>o.toList
 | _=>[]
def X.toksL:List X->List Tk
 | []=>[]
 | x::r=>x.toks++X.toksL r
end
def Ob.refs:Ob->List Nat
 | .var _ xs=>X.refsL xs
 | .map _=>[]
 | .row ..=>[]
def pos{α:Type}[DecidableEq α]:List α->α->Option Nat
 | [],_=>none
 | a::l,b=>if a=b then some 0 else (pos l b).map (·+1)
def nub{α:Type}[DecidableEq α]:List α->List α->List α
 | [],seen=>seen
 | a::l,seen=>if a∈seen then nub l seen else nub l (seen++[a])
def dW(objs:List Ob):Nat->List Nat->List Nat->List Nat
 | 0,_,seen=>seen
 | _+1,[],seen=>seen
 | n+1,r::todo,seen=>if r∈seen then dW objs n todo seen else dW objs n (((objs[r]?).map Ob.refs).getD []++todo) (seen++[r])
def fM(refs:List Nat)(ts:List Tk)(t:Tk):Option Tk:=match pos ts t with
 | some i=>some (.nm 0 0 i)
 | none=>match t with
  | .cell r off=>(pos refs r).map λr'=>.cell r' off
  | .nm ..=>none
def cz(refs:List Nat)(ts:List Tk)(t:Tk):Option Tk:=if t∈ts then none else match t with
 | .cell r _=>if r∈refs then none else some t
 | .nm ..=>some t
def ct(refs:List Nat)(L i:Nat):Nat:=match refs[i]? with
 | some r=>r
 | none=>L+(i-refs.length)
def cN(refs:List Nat)(L clk ix:Nat):Tk->Option Tk
 | .nm 0 0 i=>some (.nm clk ix i)
 | .nm ..=>none
 | .cell r off=>some (.cell (ct refs L r) off)
def afv(ts:List Tk)(objs:List Ob):List Ob:=match ts with
 | []=>objs
 | ts=>objs.map (Ob.tr some λt=>if t∈ts then none else some t)
def aaB(σ:Nat->Option Nat)(ρ:Tk->Option Tk)(objs:List Ob):List Nat->Option (List Ob)
 | []=>some []
 | r::l=>match objs[r]?,aaB σ ρ objs l with
  | some ob,some q=>some (ob.tr σ ρ::q)
  | _,_=>none
def aay(σ:Nat->Option Nat)(ρ:Tk->Option Tk):List Ob->List Nat->List Ob->List Ob
 | objs,r::l,ob::q=>aay σ ρ (objs.set r (ob.tr σ ρ)) l q
 | objs,_,_=>objs
def apH(t:Option Tk)(x:X):X:=match t with|none=>x|some t=>x.drop t
structure S where
 fr:Nat->X
 objs:List Ob
 clk:Nat
def upd(f:Nat->X)(d:Nat)(x:X):Nat->X:=λj=>if j=d then x else f j
def S.put(s:S)(d:Option Nat)(x:X):S:=match d with
 | none=>s
 | some d=>{s with fr:=upd s.fr d x}
def S.drop(s:S)(t:Option Tk):S:=match t with
 | none=>s
 | some t=>{s with fr:=λj=>(s.fr j).drop t,objs:=s.objs.map (·.drop t)}
def aOj:Value->Option C
 | .int k n=>some (.lit (.int k n))
 | .bool b=>some (.lit (.bool b))
 | .string s=>some (.lit (.string s))
 | .slice none 0 0=>some (.sl [] 0)
 | _=>none
def azh:List Value->Option (List C)
 | []=>some []
 | v::r=>match aOj v,azh r with
  | some c,some cs=>some (c::cs)
  | _,_=>none
def aOl(vs:List Value):C:=match azh vs with
 | some cs=>.agg cs
 | none=>.any
def abv:Value->X
 | .slice none 0 0=>.nil
 | .int k n=>.of (.lit (.int k n))
 | .bool b=>.of (.lit (.bool b))
 | .string s=>.of (.lit (.string s))
 | .pointer none=>.of (.lit (.pointer none))
 | .map none=>.of (.lit (.map none))
 | .nilFunc=>.of (.lit .nilFunc)
 | .nilIface=>.of (.lit .nilIface)
 | .agg vs=>.of (aOl vs.toList)
 | _=>.of .any
def S.ev(s:S):Operand->X
 | .tmp t=>s.fr t
 | .const v=>abv v
 | .func f=>.of (.fn f [])
 | .global _=>.of .any
structure TD where
 und:TypeDesc
 size:Nat
 bytes:Nat
 agg:Bool
 zero:List Value
 fields:List (Nat×Nat)
abbrev TT:=Nat->Option TD
def aoG:TypeDesc->Bool
 | .struct _=>true
 | .array _ _=>true
 | _=>false
def aoF:Value->Bool
 | .agg _=>true
 | _=>false
def fieldsOf(P:Program):TypeDesc->Option (List (Nat×Nat))
 | .struct fs=>fs.toList.mapM λf=>(P.info? f.type).map λi=>(f.offset,i.size)
 | _=>some []
def TT.of(P:Program):TT:=λt=>match P.underlying t,P.info? t with
 | some u,some i=>match i.zero,fieldsOf P u with
  | some z,some fl=>if z.cells.toList.all (·.oneCell')&&z.cells.size == i.size&&aoF z == aoG u then some ⟨u,i.size,i.bytes,aoG u,z.cells.toList,fl⟩ else none
  | _,_=>none
 | _,_=>none
def LIM:Nat:=4294967296
def aj1:Nat:=140737488355328
def afw(op:BinOp)(k:IntKind)(a b:Int):Option Value:=match op with
 | .add=>some (.int k (k.wrap (a+b)))
 | .sub=>some (.int k (k.wrap (a-b)))
 | .mul=>some (.int k (k.wrap (a*b)))
 | .quo=>if b=0 then none else some (.int k (k.wrap (a.tdiv b)))
 | .rem=>if b=0 then none else some (.int k (a.tmod b))
 | .eql=>some (.bool (decide (a=b)))
 | .neq=>some (.bool (!decide (a=b)))
 | .lss=>some (.bool (decide (a<b)))
 | .leq=>some (.bool (decide (a<=b)))
 | .gtr=>some (.bool (decide (b<a)))
 | .geq=>some (.bool (decide (b<=a)))
 | .and=>some (.int k (k.wrap (BitVec.ofInt k.bits a &&& BitVec.ofInt k.bits b).toNat))
 | .andNot=>some (.int k (k.wrap (BitVec.ofInt k.bits a &&& ~~~BitVec.ofInt k.bits b).toNat))
 | _=>none
def aoU(op:BinOp)(a b:ByteArray):Option Value:=match op with
 | .add=>if a.size+b.size<=aj1 then some (.string (a++b)) else none
 | .eql=>some (.bool (decide (a=b)))
 | .neq=>some (.bool (!decide (a=b)))
 | _=>none
def apN(op:BinOp)(a b:Bool):Option Value:=match op with
 | .eql=>some (.bool (a == b))
 | .neq=>some (.bool (!(a == b)))
 | _=>none
def amA:Option TypeDesc->Bool
 | some .bool=>true
 | _=>false
def acl(u:Option TypeDesc)(op:BinOp):Value->Value->Option Value
 | .int k a,.int k' b=>if k=k' then afw op k a b else none
 | .string a,.string b=>aoU op a b
 | .bool a,.bool b=>if amA u then apN op a b else none
 | _,_=>none
def arn(op:UnOp):Value->Option Value
 | .int k n=>match op with
  | .neg=>some (.int k (k.wrap (0-n)))
  | _=>none
 | .bool b=>match op with
  | .not=>some (.bool (!b))
  | _=>none
 | _=>none
def akl:Value->Value->Option Bool
 | .int k a,.int k' b=>if k=k' then some (decide (a=b)) else none
 | .string a,.string b=>some (decide (a=b))
 | .bool a,.bool b=>some (a == b)
 | _,_=>none
def aaM:X->Option Int
 | .of (.lit (.int .i64 n))=>some n
 | _=>none
def adF:X->Option Bool
 | .of (.lit (.bool b))=>some b
 | _=>none
def aaY:X->Option (List C×Nat)
 | .nil=>some ([],0)
 | .own _ _ _ cs n=>some (cs,n)
 | .of (.sl cs n)=>some (cs,n)
 | _=>none
def cE:X->Option (List X)
 | .agg xs=>some xs
 | .of (.agg cs)=>some (cs.map .of)
 | .of .any=>none
 | .of .undef=>none
 | .of (.tup _)=>none
 | .tup _=>none
 | .nw ..=>none
 | x=>some [x]
def eA(x:X):Option (List C):=(cE x).bind X.rds
def aax(place:Nat->Option (Nat×Nat))(cells:List X):List (Nat×List X)->Option (List X)
 | []=>some cells
 | (i,xs)::rest=>match place i with
  | none=>none
  | some (off,size) =>
   if xs.length=size/\off+size<=cells.length then aax place (cells.take off++xs++cells.drop (off+size)) rest
   else none
def fw(d:TD):List X:=d.zero.map abv
def bm(T:TT)(t:Nat)(cs:List C):Option C:=match T t with
 | none=>none
 | some d=>if d.size<=cs.length then (if d.agg then some (.agg (cs.take d.size)) else match cs with
   | c::_=>some c
   | []=>none) else none
def bC(T:TT)(t:Nat)(xs:List X):Option X:=match T t with
 | none=>none
 | some d=>if d.size<=xs.length then (if d.agg then some (.agg (xs.take d.size)) else match xs with
   | x::_=>some x
   | []=>none) else none
def elemOf(T:TT)(t:Nat):Option (Nat×TD):=match T t with
 | some {und:=.slice e,..}=>(T e).map λd=>(e,d)
 | _=>none
def aad(f:Operand->X)(ps:List (Nat×Operand)):Option (List (Nat×List X)):=match ps with
 | []=>some []
 | (i,x)::r=>match cE (f x),aad f r with
  | some l,some q=>some ((i,l)::q)
  | _,_=>none
def abF(f:Operand->X):List Operand->Option (List C)
 | []=>some []
 | x::r=>match (f x).rd,abF f r with
  | some c,some cs=>some (c::cs)
  | _,_=>none
abbrev Out:=Option (X×Option Tk)
def out(x:X):Out:=some (x,none)
def bJ(x:Option X):Out:=x.map λx=>(x,none)
def agk:Option TypeDesc->Bool
 | some .string=>true
 | _=>false
def aeP(s:ByteArray):List C:=s.data.toList.map λb=>.lit (.int .u8 b.toNat)
def alB:Option TD->Bool
 | some {und:=.int .u8,size:=1,..}=>true
 | _=>false
def ajI(T:TT)(st xt e:Nat)(x:X):Option (List C×Nat) :=
 if st=xt then aaY x else match x with
  | .of (.lit (.string s))=>if agk ((T xt).map (·.und))=true/\alB (T e)=true then some (aeP s,s.size) else none
  | _=>none
def dV(T:TT)(t:Tk)(st xt:Nat)(s x:X):Out:=match elemOf T st with
 | some (e,d)=>match ajI T st xt e x with
  | some (ys,m) =>
   if ys.length=m*d.size/\0<d.size then match s with
    | .nil=>if m<=LIM/\d.bytes<=32768 then some (.own t e d.size ys m,none) else none
    | .own t' e' z cs n=>if e'=e/\z=d.size/\n+m<=LIM/\d.bytes<=32768 then some (.own t e d.size (cs++ys) (n+m),some t') else none
    | _=>none
   else none
  | none=>none
 | none=>none
def afm(d:Int):Option X->Option Int
 | none=>some d
 | some l=>aaM l
def acA(T:TT)(t:Nat)(x:X)(lo hi:Option X):Out :=
 match x with
 | .of (.lit (.string s)) =>
  if agk ((T t).map (·.und)) then match afm 0 lo,afm (s.size:Int) hi with
  | some l,some h=>if 0<=l/\l<=h/\h<=(s.size:Int) then out (.of (.lit (.string (s.extract l.toNat h.toNat)))) else none
  | _,_=>none
  else none
 | x=>match elemOf T t,aaY x with
  | some (_,d),some (cs,n) =>
   match afm 0 lo,afm (n:Int) hi with
   | some l,some h=>if 0<=l/\l<=h/\h<=(n:Int)/\cs.length=n*d.size then out (.of (.sl ((cs.drop (l.toNat*d.size)).take ((h.toNat-l.toNat)*d.size)) (h.toNat-l.toNat))) else none
   | _,_=>none
  | _,_=>none
def abI(T:TT)(objs:List Ob)(t:Nat):X->Out
 | .ptr r off=>match objs[r]? with
  | some (.var _ xs)=>bJ (bC T t (xs.drop off))
  | some (.row _ (c::cs))=>bJ ((bm T t ((c::cs).drop off)).map .of)
  | _=>none
 | .of (.ref cs)=>bJ ((bm T t cs).map .of)
 | _=>none
def ai0(T:TT)(t f:Nat):Option (Nat×Nat):=(T t).bind λd=>d.fields[f]?
def fP(T:TT)(t f:Nat)(x:X):Out:=match ai0 T t f with
 | some (o,z)=>if 0<z then match x with
  | .ptr r off=>out (.ptr r (off+o))
  | .of (.ref cs)=>out (.of (.ref (cs.drop o)))
  | _=>none else none
 | none=>none
def apE:TypeDesc->Nat->Option Nat
 | .struct fs,i=>(fs[i]?).map (·.type)
 | _,_=>none
def ago(T:TT)(t f:Nat)(x:X):Out:=match T t with
 | some d=>match d.fields[f]?,apE d.und f with
  | some (o,_),some u=>match x with
   | .agg xs=>bJ (bC T u (xs.drop o))
   | .of (.agg cs)=>bJ ((bm T u (cs.drop o)).map .of)
   | _=>none
  | _,_=>none
 | none=>none
def aiB(e z:Nat)(i:Int):X->Out
 | .top r e' z'=>if e'=e/\z'=z/\i=0/\0<z then out (.ptr r 0) else none
 | _=>none
def bP(T:TT)(t:Nat)(x i:X):Out:=match aaM i with
 | none=>none
 | some i=>match T t with
  | some {und:=.slice e,..}=>match T e,aaY x with
   | some d,some (cs,n)=>if 0<=i/\i<(n:Int)/\cs.length=n*d.size/\0<d.size then out (.of (.ref (cs.drop (i.toNat*d.size)))) else none
   | some d,none=>aiB e d.size i x
   | _,_=>none
  | some {und:=.array n e,..}=>match T e with
   | some d=>if 0<=i/\i<(n:Int) then match x with
    | .ptr r off=>out (.ptr r (off+i.toNat*d.size))
    | .of (.ref cs)=>out (.of (.ref (cs.drop (i.toNat*d.size))))
    | _=>none else none
   | none=>none
  | _=>none
def agm(T:TT)(t:Nat)(x i:X):Out:=match aaM i with
 | none=>none
 | some i=>match x with
  | .of (.lit (.string s))=>if h:agk ((T t).map (·.und))=true/\0<=i/\i.toNat<s.size then out (.of (.lit (.int .u8 (s[i.toNat]'h.2.2).toNat))) else none
  | .agg xs=>match T t with
   | some {und:=.array n e,..}=>match T e with
    | some d=>if 0<=i/\i<(n:Int) then bJ (bC T e (xs.drop (i.toNat*d.size))) else none
    | none=>none
   | _=>none
  | .of (.agg cs)=>match T t with
   | some {und:=.array n e,..}=>match T e with
    | some d=>if 0<=i/\i<(n:Int) then bJ ((bm T e (cs.drop (i.toNat*d.size))).map .of) else none
    | none=>none
   | _=>none
  | _=>none
def aio:Option TypeDesc->Bool
 | some (.slice _)=>true
 | _=>false
def akD(b:Bool):X->Out
 | .top ..=>if b=true then out (aQ 1) else none
 | _=>none
def aah(u:Option TypeDesc)(x:X):Out:=match x with
 | .of (.lit (.string s))=>if agk u then out (aQ s.size) else none
 | x=>match aaY x with
  | some (_,n)=>if aio u then out (aQ n) else none
  | none=>akD (aio u) x
def afy:List C->Option (List UInt8)
 | []=>some []
 | .lit (.int .u8 n)::r=>(afy r).map (UInt8.ofNat n.toNat::·)
 | _=>none
def ajm(T:TT)(src:Option TD)(x:X):Out:=match src,aaY x with
 | some {und:=.slice e,..},some (cs,n)=>if alB (T e)=true/\cs.length=n then bJ ((afy cs).map λl=>af4 ⟨l.toArray⟩) else none
 | _,_=>none
def adf(T:TT)(src dst:Nat)(x:X):Out:=match T src,(T dst).map (·.und),x with
 | some _,some (TypeDesc.int k),.of (.lit (.int _ n))=>out (.of (.lit (.int k (k.wrap n))))
 | some _,some TypeDesc.string,.of (.lit (.string s))=>out (.of (.lit (.string s)))
 | d,some TypeDesc.string,x=>ajm T d x
 | _,_,_=>none
def awP(T:TT)(a e:Nat)(s:ByteArray):Out:=if agk ((T a).map (·.und))&&alB (T e) then out (.of (.sl (aeP s) s.size)) else none
def adU(T:TT)(a b:Nat)(x:X):Out:=match (T b).map (·.und),x with
 | some (TypeDesc.slice e),.of (.lit (.string s))=>awP T a e s
 | _,x=>adf T a b x
def aff(kind:TypeDesc)(k:Value):List (Value×C)->Nat->Option (Option Nat)
 | [],_=>some none
 | e::es,i=>match Instr.sameNow kind k e.1 with
  | some true=>some (some i)
  | some false=>aff kind k es (i+1)
  | none=>none
def apA:TypeDesc->Bool
 | .int _=>true
 | .string=>true
 | .bool=>true
 | _=>false
def fN:X->Option Value
 | .of (.lit v)=>some v
 | _=>none
def ahg(objs:List Ob):X->Option (List (Value×C))
 | .mp r=>match objs[r]? with
  | some (.map es)=>some es
  | _=>none
 | .of (.lit (.map none))=>some []
 | _=>none
def alb(T:TT)(t:Nat):Option X:=match T t with
 | some d=>bC T t (fw d)
 | none=>none
def ahf(T:TT)(t:Nat):Option (TypeDesc×Nat):=match T t with
 | some {und:=.map kt et,..}=>match (T kt).map (·.und) with
  | some kind=>if apA kind then some (kind,et) else none
  | none=>none
 | _=>none
def alW:Option TypeDesc->Value->Bool
 | some (.int _),.int _ _=>true
 | some .string,.string _=>true
 | some .bool,.bool _=>true
 | _,_=>false
def aeg(T:TT):Nat->List Field->List C->List C->Option Bool
 | _,[],[],[]=>some true
 | o,f::fs,.lit u::r,.lit v::q =>
  if f.name != "_"&&f.offset == o&&alW ((T f.type).map (·.und)) u&&alW ((T f.type).map (·.und)) v then match akl u v with
   | some true=>aeg T (o+1) fs r q
   | b=>b
  else none
 | _,_,_,_=>none
def afk(P:Program)(T:TT)(t:Nat)(cs ds:List C):Option Bool:=match T t with
 | some {und:=.struct fs,..}=>if P.stoodInHeld t=false/\P.eqGuardType P.depth t=false then aeg T 0 fs.toList cs ds else none
 | _=>none
def agt(P:Program)(T:TT)(t:Nat)(op:BinOp):Option C->Option C->Out
 | some (.agg cs),some (.agg ds)=>match op with
  | .eql=>bJ ((afk P T t cs ds).map aL)
  | .neq=>bJ ((afk P T t cs ds).map λb=>aL (!b))
  | _=>none
 | _,_=>none
def fE(P:Program)(T:TT)(t:Nat)(u:Option TypeDesc)(op:BinOp)(x y:X):Out:=match fN x,fN y with
 | some a,some b=>bJ ((acl u op a b).map λv=>.of (.lit v))
 | _,_=>agt P T t op x.rd y.rd
def aeH(T:TT)(objs:List Ob)(t:Nat)(x k:X)(ok:Bool):Out:=match ahf T t,fN k,ahg objs x with
 | some (kind,et),some kv,some es=>match aff kind kv es 0 with
  | some (some i)=>bJ ((es[i]?).map λe=>if ok then .tup [.of e.2,aL true] else .of e.2)
  | some none=>bJ ((alb T et).map λz=>if ok then .tup [z,aL false] else z)
  | none=>none
 | _,_,_=>none
def anf(kind:TypeDesc)(k:Value)(c:C)(es:List (Value×C)):Option (List (Value×C)):=match aff kind k es 0 with
 | some (some i)=>some (es.set i (k,c))
 | some none=>some (es++[(k,c)])
 | none=>none
def aOh(kind:TypeDesc)(k:Value)(es:List (Value×C)):Option (List (Value×C)):=match aff kind k es 0 with
 | some (some i)=>some (es.eraseIdx i)
 | some none=>some es
 | none=>none
structure An where
 pan:Bool
 rs:List X
 obs:List Ob
abbrev Orc:=Nat->List X->List Ob->Option An
structure En where
 orc:Orc
 obj:Nat->Bool
 tk:Nat->Bool
 mt:String->Option Nat->Bool
def afJ:List X->X
 | [x]=>x
 | xs=>.tup xs
def ew(P:Program)(f:Nat):Bool:=match P.funcs[f]? with
 | some fn=>fn.body.isSome&&!(fn.name == "runtime.NumGoroutine")
 | none=>false
def adL(clk ix:Nat):Tk->Option Tk
 | .nm 0 0 i=>some (.nm clk ix i)
 | _=>none
def aig(clk ix:Nat)(xs:List X):List X:=X.trs (λ_=>none) (adL clk ix) xs
def af1(P:Program)(E:En)(clk ix f:Nat)(cs:List C):Out :=
 if ew P f&&!E.obj f then match E.orc f (cs.map .of) [] with
  | some ⟨false,rs,[]⟩=>out (afJ (aig clk ix rs))
  | _=>none
 else none
def anB:Option TypeDesc->Bool
 | none=>false
 | some (.interface _)=>false
 | some _=>true
def aqE(x y:X):Out:=match aaM x,aaM y with
 | some a,some b=>out (aQ (if b<a then b else a))
 | _,_=>none
def aqF(x y:X):Out:=match aaM x,aaM y with
 | some a,some b=>out (aQ (if a<b then b else a))
 | _,_=>none
def asX(T:TT)(u:Nat):X->Bool->Out
 | .of (.ifc t c),true=>if anB ((T u).map (·.und))=true/\t=u then out (.of (.tup [c,.lit (.bool true)])) else none
 | _,_=>none
def afx(P:Program)(T:TT)(E:En)(s:S)(ix:Nat):Callee->List Operand->List Nat->Out
 | .builtin .len,[x],[t]=>aah ((T t).map (·.und)) (s.ev x)
 | .builtin .append,[a,b],[st,xt]=>dV T (.nm s.clk ix 0) st xt (s.ev a) (s.ev b)
 | .builtin .min,[a,b],_=>aqE (s.ev a) (s.ev b)
 | .builtin .max,[a,b],_=>aqF (s.ev a) (s.ev b)
 | .value f,args,_=>match s.ev f,abF s.ev args with
  | .of (.fn f caps),some cs=>af1 P E s.clk ix f (cs++caps)
  | _,_=>none
 | _,_,_=>none
def ahC:X->Option X
 | .of c=>some (.of c)
 | .nil=>some .nil
 | .own _ _ _ cs n=>some (.of (.sl cs n))
 | .ptr r o=>some (.ptr r o)
 | _=>none
def acT:List X->Option (List X)
 | []=>some []
 | x::l=>match ahC x,acT l with
  | some y,some r=>some (y::r)
  | _,_=>none
def anM(f:Nat):Option (List X)->Out
 | some xs=>out (.clo f xs)
 | none=>none
def aiw(g:Nat):Nat:=g / 2
def akZ(g:Nat)(caps args:List X):List X:=if g % 2=0 then args++caps else caps++args
def val(P:Program)(T:TT)(E:En)(s:S)(ix:Nat)(o:Oper):Out :=
 match o.op with
 | .move x | .assign x=>out (s.ev x)
 | .pick c a b=>match adF (s.ev c) with
  | some b'=>out (if b' then s.ev a else s.ev b)
  | none=>none
 | .binOp op t x y _=>fE P T t ((T t).map (·.und)) op (s.ev x) (s.ev y)
 | .unOp op _ x=>match s.ev x with
  | .of (.lit u)=>bJ ((arn op u).map λv=>.of (.lit v))
  | _=>none
 | .load t a=>abI T s.objs t (s.ev a)
 | .fieldAddr t x f=>fP T t f (s.ev x)
 | .field t x f=>ago T t f (s.ev x)
 | .indexAddr t x i=>bP T t (s.ev x) (s.ev i)
 | .index t x i=>agm T t (s.ev x) (s.ev i)
 | .slice t x lo hi none=>acA T t (s.ev x) (lo.map s.ev) (hi.map s.ev)
 | .build t ps=>match T t,aad s.ev ps.toList with
  | some d,some qs=>match d.und with
   | .struct _=>bJ ((aax (λi=>d.fields[i]?) (fw d) qs).map .agg)
   | .array _ e=>match T e with
    | some de=>bJ ((aax (λi=>some (i*de.size,de.size)) (fw d) qs).map .agg)
    | none=>none
   | _=>none
  | _,_=>none
 | .buildSlice t' n ps=>match elemOf T t',aad s.ev ps.toList with
  | some (e,d),some qs =>
   if n*d.size<=16777216/\0<d.size/\d.zero.length=d.size then match aax (λi=>some (i*d.size,d.size)) ((List.replicate n (fw d)).flatten) qs with
    | some xs=>match X.rds xs with
     | some cs=>out (.own (.nm s.clk ix 0) e d.size cs n)
     | none=>none
    | none=>none
   else none
  | _,_=>none
 | .extract x i=>match s.ev x with
  | .tup xs=>bJ (xs[i]?)
  | .of (.tup cs)=>bJ ((cs[i]?).map .of)
  | _=>none
 | .nilCheck x=>match s.ev x with
  | .ptr r off=>out (.ptr r off)
  | .of (.ref cs)=>out (.of (.ref cs))
  | _=>none
 | .makeFunc (.func f) first caps=>if first.size=0 then match abF s.ev caps.toList with
  | some cs=>out (.of (.fn f cs))
  | none=>anM (2*f) (acT (caps.toList.map s.ev))
  else if caps.size=0 then anM (2*f+1) (acT (first.toList.map s.ev)) else none
 | .convert a b x=>adU T a b (s.ev x)
 | .lookup t x i ok=>aeH T s.objs t (s.ev x) (s.ev i) ok
 | .makeInterface t x=>match anB ((T t).map (·.und)),(s.ev x).rd with
  | true,some c=>out (.of (.ifc t c))
  | _,_=>none
 | .typeAssert x _ u ok=>asX T u (s.ev x) ok
 | .call {callee:=cal,args:=args,argTypes:=tys}=>afx P T E s ix cal args.toList tys.toList
 | .alloc t=>match T t with
  | some d=>if 0<d.size then out (.nw (some (.nm s.clk ix 0)) t d.size) else none
  | none=>none
 | .store t (.tmp d) x=>match T t,s.fr d,eA (s.ev x),o.guard,o.dst with
  | some td,.nw (some tk) ty z,some cs,none,none=>if ty=t/\z=td.size/\cs.length=z then some (.of (.ref cs),some tk) else none
  | _,_,_,_,_=>none
 | _=>none
def dF(o:Oper):Option Nat:=match o.op,o.guard with
 | .store _ (.tmp d) _,none=>some d
 | _,_=>o.dst
def aau(clk:Nat)(after:List Edge):Option Tk->Bool
 | some (.nm c ix _)=>decide (c<clk)||(decide (c=clk)&&after.any λe=>Region.binds .any e&&e.on == ix)
 | some (.cell _ o)=>!(o == 1099511627776)
 | none=>true
def akL{clk:Nat}{af:List Edge}{t:Tk}(h:aau clk af (some t)=true):t.isRow=false:=by
 cases t with
 | nm c ix i=>rfl
 | cell r o=>simpa [aau,Tk.isRow] using h
def fh(P:Program)(T:TT)(E:En)(s:S)(ix:Nat)(o:Oper):Option (Option X×S):=match val P T E s ix o with
 | some (x,t)=>if aau s.clk o.after.toList t=true then some (none,(s.drop t).put (dF o) x) else none
 | none=>none
def dU(r:Nat):Nat->List X->List (Tk×Tk)
 | _,[]=>[]
 | off,.own t _ _ _ _::l=>(t,.cell r off)::dU r (off+1) l
 | off,_::l=>dU r (off+1) l
def acU:List (Tk×Tk)->Tk->Option Tk
 | [],_=>none
 | (a,b)::l,t=>if a=t then some b else acU l t
def aaL(r off n:Nat)(mv:List (Tk×Tk))(t:Tk):Option Tk:=match acU mv t with
 | some t'=>some t'
 | none=>match t with
  | .cell r' o'=>if r'=r/\off<=o'/\o'<off+n then none else some t
  | .nm ..=>some t
def acy:List X->Bool
 | []=>true
 | .own ..::_=>false
 | _::l=>acy l
def S.tr(ρ:Tk->Option Tk)(s:S):S:={s with fr:=λj=>(s.fr j).tr some ρ,objs:=s.objs.map (Ob.tr some ρ)}
def aqK(r off:Nat)(xs ys:List X)(s:S):S:=if acy xs&&acy ys then s else s.tr (aaL r off xs.length (dU r off xs))
def amM(s:S)(d:Option Nat)(ty:Nat)(xs:List X):S:=(aqK s.objs.length 0 xs [] {s with objs:=s.objs++[Ob.var ty xs]}).put d (.ptr s.objs.length 0)
def apz(s:S)(j ty:Nat)(xs:List X):S:={s with objs:=s.objs++[Ob.var ty xs]}.put (some j) (.ptr s.objs.length 0)
def af9(s:S)(d:Option Nat)(n r off:Nat)(xs:List X):Option S:=match s.objs[r]? with
 | some (.var ty ys)=>if xs.length=n/\off+xs.length<=ys.length then
   some ((aqK r off xs ((ys.drop off).take xs.length) {s with objs:=s.objs.set r (Ob.var ty (ys.take off++xs++ys.drop (off+xs.length)))}).put d (.of .undef))
  else none
 | _=>none
def ad4(s:S)(c:Callee)(args:List Operand):Option (Nat×List X):=match c with
 | .value f=>match s.ev f with
  | .of (.fn g caps)=>some (g,args.map s.ev++caps.map .of)
  | .clo g caps=>some (aiw g,akZ g caps (args.map s.ev))
  | _=>none
 | _=>none
def af3(s:S)(ix:Nat)(d:Option Nat)(refs:List Nat)(ts:List Tk)(an:An):Option (Option X×S) :=
 let σ:=λi=>some (ct refs s.objs.length i)
 let ρ:=cN refs s.objs.length s.clk ix
 if refs.length<=an.obs.length then
  let s':S:={s with fr:=λj=>(s.fr j).tr some (cz refs ts),objs:=aay σ ρ (s.objs.map (Ob.tr some (cz refs ts))) refs an.obs++(an.obs.drop refs.length).map (Ob.tr σ ρ)}
  match an with
  | ⟨true,[x],_⟩=>some (some (x.tr σ ρ),s')
  | ⟨true,_,_⟩=>none
  | ⟨false,rs,_⟩=>some (none,s'.put d (afJ (X.trs σ ρ rs)))
 else none
def adq:Option Ob->Bool
 | some ob=>ob.live
 | none=>false
def agF(objs:List Ob):List Nat->Bool
 | []=>true
 | r::l=>adq objs[r]?&&agF objs l
def akJ:Bool->Option (List Ob)->Option (List Ob)
 | true,x=>x
 | false,_=>none
def callS(P:Program)(E:En)(s:S)(ix:Nat)(d:Option Nat)(f:Nat)(us:List X):Option (Option X×S) :=
 if ew P f then
  let refs:=dW s.objs 999 (X.refsL us) []
  let ts:=if E.tk f then nub (X.toksL us) [] else []
  match akJ (agF s.objs refs) (aaB (pos refs) (fM refs ts) (afv ts s.objs) refs) with
  | some obs=>match E.orc f (X.trs (pos refs) (fM refs ts) us) obs with
   | some an=>af3 s ix d refs ts an
   | none=>none
  | none=>none
 else none
def afX(r:Nat)(t:Tk):Option Tk:=if t=abQ r then none else some t
def aqu(T:TT)(s:S)(ix:Nat)(d:Option Nat)(t r e z:Nat):Option (Nat×TD)->Option Int->Option S
 | some (e',td),some 0=>if e'=e/\td.size=z then match s.objs[r]? with
  | some (.row _ (_::_))=>some (({s.tr (afX r) with objs:=((s.tr (afX r)).objs).set r (.row e [])}:S).put d (.own (.nm s.clk ix 0) e z [] 0))
  | _=>none
  else none
 | _,_=>none
def hiX:Option X->Option Int
 | some x=>aaM x
 | none=>none
def abm(P:Program)(T:TT)(E:En)(dr:Bool)(s:S)(ix:Nat)(o:Oper):Option (Option X×S) :=
 if dr then fh P T E s ix o else
 match o.op with
 | .alloc t=>if E.mt o.pos o.dst then match T t with
   | some d=>some (none,amM s o.dst t (fw d))
   | none=>none
  else fh P T E s ix o
 | .box t x=>if E.mt o.pos o.dst then match T t,cE (s.ev x) with
   | some d,some xs=>if xs.length=d.size then some (none,amM s o.dst t xs) else none
   | _,_=>none
  else match T t,eA (s.ev x) with
   | some d,some cs=>if cs.length=d.size/\0<d.size then some (none,s.put o.dst (.of (.ref cs))) else none
   | _,_=>none
 | .store t a x=>match s.ev a with
  | .nw (some tk) ty z=>if E.mt o.pos (dF o) then match T t,cE (s.ev x),dF o with
    | some d,some xs,some j=>if ty=t/\z=d.size/\xs.length=z/\aau s.clk o.after.toList (some tk)=true/\o.dst=none then some (none,apz (s.drop (some tk)) j t (X.drops tk xs)) else none
    | _,_,_=>none
   else fh P T E s ix o
  | _=>match T t,s.ev a,cE (s.ev x) with
   | some d,.ptr r off,some xs=>(af9 s o.dst d.size r off xs).map λs=>(none,s)
   | _,_,_=>none
 | .makeMap _ none=>some (none,{s with objs:=s.objs++[Ob.map []]}.put o.dst (.mp s.objs.length))
 | .mapUpdate t m k x=>match ahf T t,s.ev m,fN (s.ev k),(s.ev x).rd with
  | some (kind,_),.mp r,some kv,some c=>match s.objs[r]? with
   | some (.map es)=>match anf kind kv c es with
    | some es'=>some (none,{s with objs:=s.objs.set r (Ob.map es')}.put o.dst (.of .undef))
    | none=>none
   | _=>none
  | _,_,_,_=>none
 | .insert t m k x=>match ahf T t,s.ev m,fN (s.ev k),(s.ev x).rd with
  | some (kind,_),.mp r,some kv,some c=>match s.objs[r]? with
   | some (.map es)=>match anf kind kv c es with
    | some es'=>some (none,{s with objs:=s.objs.set r (Ob.map es')}.put o.dst (.of .undef))
    | none=>none
   | _=>none
  | _,_,_,_=>none
 | .call {callee:=.builtin .delete,args:=args,argTypes:=tys}=>match args.toList,tys.toList with
  | [m,k],[t,_]=>match ahf T t,s.ev m,fN (s.ev k) with
   | some (kind,_),.mp r,some kv=>match s.objs[r]? with
    | some (.map es)=>match aOh kind kv es with
     | some es'=>some (none,{s with objs:=s.objs.set r (Ob.map es')}.put o.dst (.tup []))
     | none=>none
    | _=>none
   | _,_,_=>none
  | _,_=>none
 | .panic x=>match (s.ev x).rd with
  | some (.ifc t c)=>some (some (.of (.ifc t c)),s)
  | _=>none
 | .slice t x none hi none=>match s.ev x with
  | .top r e z=>(aqu T s ix o.dst t r e z (elemOf T t) (hiX (hi.map s.ev))).map λs=>(none,s)
  | _=>fh P T E s ix o
 | .call {callee:=.value f,args:=args,argTypes:=_}=>match ad4 s (.value f) args.toList with
  | some (g,us)=>if E.obj g then callS P E s ix o.dst g us else fh P T E s ix o
  | none=>none
 | _=>fh P T E s ix o
def dM(ops:Array Oper)(s:S)(o:Oper):Option Bool :=
 match o.guard with
 | none=>some true
 | some (j,want)=>match (ops[j]?).bind (·.dst) with
  | some d=>match s.fr d with
   | .of (.lit (.bool b))=>some (b == want)
   | .of .undef=>some false
   | _=>none
  | none=>some false
def bx(P:Program)(T:TT)(E:En)(dr:Bool)(ops:Array Oper)(s:S)(ix:Nat)(o:Oper):Option (Option X×S) :=
 match dM ops s o with
 | some true=>abm P T E dr s ix o
 | some false=>some (none,s.put o.dst (.of .undef))
 | none=>none
def abs(P:Program)(T:TT)(E:En)(dr:Bool)(ops:Array Oper):Nat->List Oper->S->Option (Option X×S)
 | _,[],s=>some (none,s)
 | k,o::r,s=>match bx P T E dr ops s k o with
  | some (none,s')=>abs P T E dr ops (k+1) r s'
  | some (some x,s')=>some (some x,s')
  | none=>none
def cU:Op->Bool
 | .store ..=>true
 | _=>false
def abj:List Oper->Bool
 | []=>false
 | [o]=>cU o.op&&o.guard.isNone
 | _::o::l=>abj (o::l)
def aeL(obj:Nat->Bool):Op->Bool
 | .call {callee:=.value (.func g),args:=args,..}=>args.isEmpty&&obj g
 | _=>false
def aiU(obj:Nat->Bool):List Oper->Bool
 | []=>false
 | o::_=>aeL obj o.op&&o.guard.isNone
def spB(obj:Nat->Bool)(l:List Oper):Bool:=aiU obj l||abj l
def mkA(P:Program)(E:En):Op->Option (List (Value×C))
 | .call {callee:=.value (.func g),..}=>if ew P g then match E.orc g [] [] with
  | some ⟨false,[.mp 0],[.map es]⟩=>some es
  | _=>none
  else none
 | _=>none
def mkS(P:Program)(E:En)(s:S)(o:Oper):Option S:=(mkA P E o.op).map λes=>{s with objs:=s.objs++[Ob.map es]}.put o.dst (.mp s.objs.length)
def acB(P:Program)(T:TT)(E:En)(ops:Array Oper):Nat->List Oper->S->Option (Option X×S)
 | _,[],_=>none
 | k,[o],s=>match bx P T E false ops s k o with
  | some (none,s')=>some (none,s')
  | _=>none
 | k,o::o'::l,s=>match bx P T E true ops s k o with
  | some (none,s')=>acB P T E ops (k+1) (o'::l) s'
  | _=>none
def anH(P:Program)(T:TT)(E:En)(ops:Array Oper)(l:List Oper)(s:S):Option (Option X×S) :=
 if abj l=true then acB P T E ops 0 l s else match l with
  | o::r=>match mkS P E s o with
   | some s1=>abs P T E true ops 1 r s1
   | none=>none
  | []=>none
def opK:Op->Nat
 | .store ..=>1
 | .assign _=>2
 | .alloc _=>3
 | .load _ _=>4
 | _=>0
def aOT:Op->Option Nat
 | .store _ (.tmp d) _=>some d
 | _=>none
def alj:List Oper->Option Nat
 | []=>none
 | [_]=>none
 | [o,o']=>if (cU o.op&&o.guard.isNone&&(o'.guard.isNone&&(cU o'.op||opK o'.op == 2)))=true then aOT o.op else none
 | _::o::o'::l=>alj (o::o'::l)
def eqD:Option Nat->Nat->Bool
 | some a,d=>a == d
 | none,_=>false
def amt(d:Nat):List Oper->Bool
 | []=>false
 | o::l=>(opK o.op == 3&&eqD o.dst d)||amt d l
def tlM(l:List Oper):Option Nat->Bool
 | some d=>!amt d l
 | none=>false
def tlB(l:List Oper):Bool:=tlM l (alj l)
def aFo(s:S):Op->Bool
 | .load _ a=>match s.ev a with
  | .of (.ref _)=>true
  | _=>false
 | _=>false
def afF(s:S)(o:Oper):Bool:=!(opK o.op == 4)||aFo s o.op
def air(P:Program)(T:TT)(E:En)(ops:Array Oper):Nat->List Oper->S->Option (Option X×S)
 | k,o::o'::o''::l,s=>if afF s o=true then match bx P T E true ops s k o with
   | some (none,s')=>air P T E ops (k+1) (o'::o''::l) s'
   | _=>none
  else none
 | k,[o,o'],s=>match bx P T E false ops s k o with
  | some (none,s')=>match bx P T E false ops s' (k+1) o' with
   | some (none,s'')=>some (none,s'')
   | _=>none
  | _=>none
 | _,_,_=>none
def ac0(obj:Nat->Bool):Op->Bool
 | .call {callee:=.value (.func g),..}=>obj g
 | _=>false
def acL(obj:Nat->Bool):List Oper->Nat
 | []=>0
 | [o]=>if (ac0 obj o.op&&o.guard.isNone)=true then 1 else 0
 | [o,o']=>if (ac0 obj o'.op&&o'.guard.isNone)=true then 1 else if (ac0 obj o.op&&o.guard.isNone&&(opK o'.op == 2&&o'.guard.isNone))=true then 2 else 0
 | _::o::o'::l=>acL obj (o::o'::l)
def okS:Option (Option X×S)->Option S
 | some (none,s)=>some s
 | _=>none
def kM(obj:Nat->Bool)(o:Oper):Bool:=aeL obj o.op&&o.guard.isNone
def stX(P:Program)(T:TT)(E:En)(ops:Array Oper)(t:Bool)(s:S)(i:Nat)(o:Oper):Option S :=
 if t=true then okS (bx P T E false ops s i o) else if kM E.obj o=true then mkS P E s o else okS (bx P T E true ops s i o)
def evD(P:Program)(T:TT)(E:En)(ops:Array Oper)(n:Nat):Nat->Bool->List Oper->S->Option S
 | _,_,[],s=>some s
 | k,b,o::l,s =>
  if (b&&(!decide (l.length<n)&&kM E.obj o))=true then none else match stX P T E ops (decide (l.length<n)) s k o with
   | some s'=>evD P T E ops n (k+1) (b||(!decide (l.length<n)&&kM E.obj o)) l s'
   | none=>none
def wB(ops:Array Oper)(i:Nat):Nat->Nat->Bool
 | 0,_=>false
 | f+1,j=>match ops[j]? with
  | some o=>o.after.any λe=>Region.binds .any e&&(e.on == i||wB ops i f e.on)
  | none=>false
def aqX(ops:Array Oper)(n:Nat):Bool:=(List.range ops.size).all λt=>decide (t+n<ops.size)||(List.range t).all λi=>wB ops i ops.size t
def acj(N:Nat)(o:Oper):Bool:=(match o.dst with
 | some d=>decide (d<N)
 | none=>true)&&match dF o with
 | some d=>decide (d<N)
 | none=>true
def afU(ops:Array Oper)(i:Nat):Bool:=match ops[i]? with
 | some o=>match dF o with
  | some d=>o.dst.isNone&&(List.range ops.size).all λj=>j == i||match ops[j]? with
   | some oj=>!(oj.looksAt ops).contains d&&(dF oj != some d||(!cU oj.op&&o.after.any λe=>Region.binds .any e&&e.on == j))
   | none=>true
  | none=>false
 | none=>false
def bdf(obj:Nat->Bool)(o:Oper):Bool:=o.guard.isNone&&match o.op with
 | .call {callee:=.value (.func g),..}=>obj g
 | .call {callee:=.value (.tmp _),args:=args,..}=>args.isEmpty
 | _=>false
def arP:Operand->Option Nat
 | .tmp t=>some t
 | _=>none
def amz(a b c:Oper):Bool:=(a.guard.isNone&&b.guard.isNone&&(c.guard.isNone&&c.dst.isNone))&&match a.op,b.op,c.op,a.dst,b.dst with
 | .call {callee:=.builtin .append,args:=asx,argTypes:=ts},.indexAddr t (.tmp x) i,.store _ (.tmp y) v,some d,some d'=>d == x&&d' == y&&d != d'&&ts.toList == [t,t]&&asx.size == 2&&(arP i != some d)&&(arP v != some d&&arP v != some d')
 | _,_,_,_,_=>false
def axW:Nat->List Oper->Option Nat
 | k,a::b::c::l=>if amz a b c=true then some k else axW (k+1) (b::c::l)
 | _,_=>none
def a2c(obj:Nat->Bool)(m:Nat):Nat->List Oper->Option Nat
 | _,[]=>none
 | k,o::l=>if k<m/\bdf obj o=true then some k else a2c obj m (k+1) l
def apb:Op->Bool
 | .move _=>true
 | .load _ _=>true
 | .fieldAddr _ _ _=>true
 | .indexAddr _ _ _=>true
 | .nilCheck _=>true
 | .binOp ..=>true
 | .buildSlice ..=>true
 | .call {callee:=.builtin .len,..}=>true
 | _=>false
def uAt(ops:Array Oper)(i:Nat):Bool:=match ops[i]? with
 | some o=>apb o.op&&o.guard.isNone
 | none=>false
def ag6(ops:Array Oper):List Nat->Array Bool->Bool
 | [],_=>true
 | i::l,listed=>(Region.ready .any ops listed).contains i&&Region.free .any ops listed i&&ag6 ops l (listed.setIfInBounds i true)
structure Pn where
 c:Option Nat
 pre:List (Nat×Bool)
 mid:List (Nat×Bool)
 m:Nat
 push:Bool
def afo(ops:Array Oper)(c:Option Nat)(i:Nat):Bool:=match c with
 | some c=>wB ops c ops.size i
 | none=>false
def ag7(ops:Array Oper)(c:Option Nat)(i:Nat):Bool:=match c with
 | some c=>wB ops i ops.size c
 | none=>true
def Pn.ord(p:Pn):List Nat:=p.pre.map (·.1)++p.c.toList++p.mid.map (·.1)
def aDZ(c n f g:Oper):Bool:=(n.guard.isNone&&f.guard.isNone&&(g.guard.isNone&&g.dst.isNone))&&match n.op,n.dst,f.op,f.dst,g.op with
 | .nilCheck _,some e,.fieldAddr _ (.tmp e1) _,some e',.store _ (.tmp e2) _=>e1 == e&&e2 == e'&&c.op.operands.toList.all λy=>arP y != some e&&arP y != some e'
 | _,_,_,_,_=>false
def axV:List Oper->Bool
 | [a,b,c,n,f,g]=>amz a b c&&aDZ c n f g
 | _=>false
def six(ops:Array Oper)(k:Nat)(l:Array Bool):Bool :=
 let l1:=l.setIfInBounds k true
 let l2:=l1.setIfInBounds (k+1) true
 let l3:=l2.setIfInBounds (k+3) true
 let l4:=l3.setIfInBounds (k+4) true
 let l5:=l4.setIfInBounds (k+2) true
 let l6:=l4.setIfInBounds (k+5) true
 (Region.noSelect ops&&(Region.ready .any ops l == [k]))&&((Region.free .any ops l1 (k+1)&&(Region.ready .any ops l1).contains (k+1))&&(Region.free .any ops l2 (k+3)&&(Region.ready .any ops l2).contains (k+3))) &&
  ((Region.free .any ops l3 (k+4)&&(Region.ready .any ops l3).contains (k+4))&&(Region.ready .any ops l4 == [k+2,k+5])&&((Region.ready .any ops l5 == [k+5])&&(Region.ready .any ops l6 == [k+2])))&&(Region.ready .any ops (l5.setIfInBounds (k+5) true) == [])
def akQ(n k:Nat):Array Bool:=((List.range n).map λi=>decide (i<k)).toArray
def aN6(ops:Array Oper)(m:Nat):Bool:=(List.range ops.size).all λt=>decide (t<m)||(List.range m).all λi=>wB ops i ops.size t
def aB8(ops:Array Oper)(m:Nat):Bool->Bool
 | true=>axV (ops.toList.drop m)&&six ops m (akQ ops.size m)
 | false=>aqX ops (ops.size-m)
def aKo(ops:Array Oper)(i:Nat):Bool:=match ops[i]? with
 | some o=>o.guard.isNone
 | none=>false
def aEc(ops:Array Oper)(i:Nat):Bool:=match ops[i]? with
 | some o=>!cU o.op||afU ops i
 | none=>false
def arN(ops:Array Oper)(p:Pn):Bool :=
 (ag6 ops (p.ord++(List.range ops.size).drop p.m) (Array.replicate ops.size false)&&aN6 ops p.m)&&(decide (p.m<=ops.size)&&decide (p.ord.length=p.m)) &&
 ((((List.range p.m).all λi=>p.ord.contains i)&&p.ord.all λi=>decide (i<p.m)&&aEc ops i)&&((p.pre.map (·.1)++p.mid.map (·.1)).all λi=>some i != p.c)) &&
 ((p.c.toList.all λi=>aKo ops i)&&((p.pre.all λx=>(!x.2||ag7 ops p.c x.1)&&(ag7 ops p.c x.1||uAt ops x.1))&&p.mid.all λx=>x.2&&afo ops p.c x.1)&&aB8 ops p.m p.push)
def aPI(l:List Oper):Nat:=(l.reverse.takeWhile λo=>cU o.op).length
def aPR(ops:Array Oper):Nat:=match axW 0 ops.toList with
 | some k=>k
 | none=>if 2<=aPI ops.toList then ops.size-aPI ops.toList else ops.size-1
def a5w(ops:Array Oper)(c:Option Nat)(m:Nat)(b:Bool):Pn :=
 ⟨c,((List.range m).filter λi=>some i != c&&!afo ops c i).map λi=>(i,ag7 ops c i),((List.range m).filter λi=>afo ops c i).map λi=>(i,true),m,b⟩
def aPQ(obj:Nat->Bool)(ops:Array Oper):Pn:=a5w ops (a2c obj (aPR ops) 0 ops.toList) (aPR ops) (axW 0 ops.toList).isSome
def ajA(obj:Nat->Bool)(ops:Array Oper):Option Pn:=if arN ops (aPQ obj ops)=true then some (aPQ obj ops) else none
def abz:X->Bool
 | .top ..=>false
 | _=>true
def acF(s:S):List Operand->Bool
 | []=>true
 | x::l=>abz (s.ev x)&&acF s l
def alz(b:Bool):Option (List Nat):=match b with
 | true=>some []
 | false=>none
def afW:X->Option (List Nat)
 | .of (.ref _)=>some []
 | .ptr r _=>some [r]
 | _=>none
def aeK(s:S):Op->Option (List Nat)
 | .load _ a=>afW (s.ev a)
 | .call {callee:=.builtin .len,args:=args,..}=>alz (acF s args.toList)
 | .buildSlice _ _ ps=>alz (acF s (ps.toList.map (·.2)))
 | .indexAddr _ x _=>alz (acF s [x])
 | _=>some []
def ldD(s:S)(b:Bool)(o:Op):Option (List Nat):=match b with
 | true=>some []
 | false=>aeK s o
def evA(P:Program)(T:TT)(E:En)(ops:Array Oper):List (Nat×Bool)->List Nat->S->Option (List Nat×S)
 | [],D,s=>some (D,s)
 | x::l,D,s=>match ops[x.1]? with
  | some o=>match ldD s x.2 o.op with
   | some D'=>match bx P T E true ops s x.1 o with
    | some (none,s')=>evA P T E ops l (D'++D) s'
    | _=>none
   | none=>none
  | none=>none
def azp(obj tk:Nat->Bool)(s:S)(D:List Nat):Option (Nat×List X)->Bool
 | some (g,us)=>obj g&&!tk g&&(dW s.objs 999 (X.refsL us) []).all λr=>!D.contains r
 | none=>false
def aoQ(obj tk:Nat->Bool)(s:S)(D:List Nat):Op->Bool
 | .call {callee:=cal,args:=args,..}=>azp obj tk s D (ad4 s cal args.toList)
 | _=>false
def blank(s:S):S:={s with fr:=λ_=>.of .any}
def aha:Option (Option X×S)->Option (Option X×S)
 | some (some x,s)=>some (some x,blank s)
 | r=>r
def ai1(P:Program)(T:TT)(E:En)(ops:Array Oper)(D:List Nat)(s:S):Option Nat->Option (Option X×S)
 | none=>some (none,s)
 | some c=>match ops[c]? with
  | some o=>if aoQ E.obj E.tk s D o.op=true then aha (abm P T E false s c o) else none
  | none=>none
def apk(s:S)(tk:Tk)(e:Nat)(d:TD)(ys:List C)(j:Int):X->Option (X×Option Tk×List Ob)
 | .nil=>if j=0/\d.bytes<=32768 then some (.own tk e d.size ys 1,none,[]) else none
 | .own t e' z cs n=>if e'=e/\z=d.size/\j=(n:Int)/\n+1<=LIM/\d.bytes<=32768 then (if n=0 then some (.top s.objs.length e z,some t,[.row e ys]) else some (.own tk e z (cs++ys) (n+1),some t,[])) else none
 | _=>none
def arK(T:TT)(s:S)(ix:Nat)(a b c:Oper)(st:Nat)(x y i v:Operand)(ty:Nat):Option S:=match elemOf T st,aaY (s.ev y),aaM (s.ev i),eA (s.ev v) with
 | some (e,d),some (cs,1),some j,some ys=>if cs.length=d.size/\ys.length=d.size/\0<d.size/\ty=e then match apk s (.nm s.clk ix 0) e d ys j (s.ev x) with
  | some (z,t,obs)=>if aau s.clk a.after.toList t=true then some (({s.drop t with objs:=(s.drop t).objs++obs}:S).put a.dst z |>.put b.dst (.of .any)) else none
  | none=>none
  else none
 | _,_,_,_=>none
def ang(T:TT)(s:S)(ix:Nat)(a b c:Oper):Option S:=match a.op,b.op,c.op with
 | .call {callee:=.builtin .append,args:=asx,argTypes:=ts},.indexAddr st _ i,.store ty _ v=>match asx.toList with
  | [x,y]=>arK T s ix a b c st x y i v ty
  | _=>none
 | _,_,_=>none
def evT(P:Program)(T:TT)(E:En)(ops:Array Oper)(k:Nat)(s:S)(push:Bool)(l:List Oper):Option (Option X×S):=match push with
 | true=>match l with
  | a::b::c::l=>match ang T s k a b c with
   | some s'=>abs P T E false ops (k+3) l s'
   | none=>none
  | _=>none
 | false=>abs P T E false ops k l s
def evP(P:Program)(T:TT)(E:En)(ops:Array Oper)(p:Pn)(s:S):Option (Option X×S):=match evA P T E ops p.pre [] s with
 | some (D,s1)=>match ai1 P T E ops D s1 p.c with
  | some (none,s2)=>match evA P T E ops p.mid [] s2 with
   | some (_,s3)=>evT P T E ops p.m s3 p.push (ops.toList.drop p.m)
   | none=>none
  | r=>r
 | none=>none
def plB(mt:String->Option Nat->Bool):List Oper->Bool
 | []=>false
 | o::_=>mt o.pos none
def ay4(P:Program)(T:TT)(E:En)(ops:Array Oper)(s:S):Option Pn->Option (Option X×S)
 | some p=>evP P T E ops p s
 | none=>none
def evR(P:Program)(T:TT)(E:En)(draw:Bool)(ops:Array Oper)(s:S):Option (Option X×S) :=
 if (draw&&plB E.mt ops.toList)=true then ay4 P T E ops s (ajA E.obj ops)
 else if (draw&&tlB ops.toList)=true then air P T E ops 0 ops.toList s
 else if (draw&&!(acL E.obj ops.toList == 0))=true then (evD P T E ops (acL E.obj ops.toList) 0 false ops.toList s).map λs=>(none,s)
 else if (draw&&spB E.obj ops.toList)=true then anH P T E ops ops.toList s else abs P T E draw ops 0 ops.toList s
def arX(o:Oper):Bool:=match o.op,o.guard with
 | .extract _ _,none=>true
 | _,_=>false
def amu(ops:Array Oper)(i:Nat):Bool:=match ops[i]?,ops[ops.size-1]? with
 | some o,some l=>arX o&&match dF l with
  | some d=>!(o.looksAt ops).contains d&&o.dst != some d
  | none=>true
 | _,_=>false
def aoI(ops:Array Oper):Bool:=(List.range (ops.size-1)).all λi=>amu ops i||(List.range ops.size).any λk=>decide (i<k)&&match ops[k]? with
 | some o=>!arX o&&o.after.any λe=>Region.binds .any e&&e.on == i
 | none=>false
inductive Ex where
 | normal
 | exit (id:Nat)
 | ret
 | pan (x:X)
def adz(xs:List X)(obs:List Ob):S:={fr:=λj=>xs.getD j (.of .undef),objs:=obs,clk:=1}
def acw(T:TT)(s:S):List ResultVar->Option (List X)
 | []=>some []
 | .tmp t::r=>(acw T s r).map (s.fr t::·)
 | .cell a t::r=>match abI T s.objs t (s.fr a),acw T s r with
  | some (x,_),some q=>some (x::q)
  | _,_=>none
def aeb(m:Nat)(pan:Bool)(rs:List X)(objs:List Ob):Option An :=
 let refs:=dW objs 999 (X.refsL rs++((objs.take m).map Ob.refs).flatten) (List.range m)
 let ts:=(nub (X.toksL rs) []).filter λt=>match t with
  | .nm ..=>true
  | .cell r _=>!decide (r∈refs)
 (aaB (pos refs) (fM refs ts) objs refs).map λobs=>⟨pan,X.trs (pos refs) (fM refs ts) rs,obs⟩
def akF(ops:Array Oper):Bool:=(List.range ops.size).all λi=>match ops[i]? with
 | some o=>!cU o.op||(abj ops.toList&&i+1 == ops.size)||afU ops i
 | none=>true
def al7(ops:Array Oper)(k j:Nat):Bool:=match ops[k]? with
 | some o=>o.after.any λe=>Region.binds .any e&&e.on == j
 | none=>false
def ayB(ops:Array Oper)(i m:Nat):Bool:=match ops[i]?,ops[m]? with
 | some o,some l=>(opK o.op == 4&&o.guard.isNone)&&match dF l with
  | some d=>!(o.looksAt ops).contains d&&o.dst != some d
  | none=>true
 | _,_=>false
def akE(ops:Array Oper):Bool:=((List.range (ops.size-2)).all λi=>(match ops[i]? with
 | some o=>!cU o.op
 | none=>true)&&(al7 ops (ops.size-2) i||ayB ops i (ops.size-2)))&&(List.range (ops.size-1)).all λj=>al7 ops (ops.size-1) j
def aFd:Op->Bool
 | .call {callee:=.value (.func _),args:=args,..}=>args.isEmpty
 | _=>false
def aqP:Op->Bool
 | .lookup ..=>true
 | _=>false
def opP(ops:Array Oper)(p:Op->Bool)(i:Nat):Bool:=match ops[i]? with
 | some o=>p o.op
 | none=>false
def arY(ops:Array Oper):Bool:=(List.range ops.size).all λm=>!opP ops aFd m||(List.range ops.size).all λj=>!opP ops aqP j||wB ops m ops.size j
def aEA(mt:String->Option Nat->Bool)(N:Nat)(ops:Array Oper)(draw:Bool):Bool:=ops.all (acj N)&&(!draw||plB mt ops.toList||(Region.lexB .any ops&&(aqX ops (acL (λ_=>true) ops.toList)&&arY ops)&&if tlB ops.toList then akE ops else akF ops&&(!abj ops.toList||aoI ops)))
def aaP(mt:String->Option Nat->Bool)(N:Nat):Code->Bool
 | .region _ ops draw=>aEA mt N ops draw
 | .seq a b=>aaP mt N a&&aaP mt N b
 | .cond _ a b=>aaP mt N a&&aaP mt N b
 | .block _ c=>aaP mt N c
 | .loop c=>aaP mt N c
 | .scope c=>aaP mt N c
 | _=>true
def amK(P:Program)(f:Nat):Code:=match P.funcs[f]? with
 | some fn=>fn.body.getD .skip
 | none=>.skip
def apP(P:Program)(f:Nat):Nat:=match P.funcs[f]? with
 | some fn=>fn.ntmps
 | none=>0
def ac3(P:Program)(f:Nat):List ResultVar:=match P.funcs[f]? with
 | some fn=>fn.results.toList
 | none=>[]
def at4(mt:String->Option Nat->Bool)(P:Program)(f:Nat):Bool:=match P.funcs[f]? with
 | some fn=>fn.body.isSome&&aaP mt fn.ntmps (fn.body.getD .skip)
 | none=>false
structure Pr where
 prim:Orc
 obj:Nat->Bool
 tk:Nat->Bool
 keep:Nat->Bool
 mt:String->Option Nat->Bool
def arA(x:X):Option C->X
 | some c=>.of c
 | none=>x
def afT(x:X):X:=arA x x.rd
def agN(keep:Bool)(rs:List X):List X:=match keep with
 | true=>rs
 | false=>rs.map afT
def amJ(P:Program)(T:TT)(mt:String->Option Nat->Bool)(keep:Nat->Bool)(run:Code->S->Option (Ex×S))(f:Nat)(xs:List X)(obs:List Ob):Option An :=
 if at4 mt P f=true/\xs.length<=apP P f then match run (amK P f) (adz xs obs) with
  | some (.normal,s)=>(acw T s (ac3 P f)).bind λrs=>aeb obs.length false (agN (keep f) rs) s.objs
  | some (.ret,s)=>(acw T s (ac3 P f)).bind λrs=>aeb obs.length false (agN (keep f) rs) s.objs
  | some (.pan x,s)=>aeb obs.length true [x] s.objs
  | _=>none
 else none
def apm(P:Program)(T:TT)(pr:Pr)(run:Code->S->Option (Ex×S)):Orc:=λf xs obs =>
 match pr.prim f xs obs with
 | some r=>some r
 | none=>amJ P T pr.mt pr.keep run f xs obs
def ai2(P:Program)(T:TT)(pr:Pr)(run:Code->S->Option (Ex×S)):En:=⟨apm P T pr run,pr.obj,pr.tk,pr.mt⟩
def evC(P:Program)(T:TT)(pr:Pr):Nat->Code->S->Option (Ex×S)
 | 0,_,_=>none
 | n+1,c,s=>match c with
  | .skip=>some (.normal,s)
  | .ret=>some (.ret,s)
  | .exit i=>some (.exit i,s)
  | .seq a b=>match evC P T pr n a s with
   | some (.normal,s')=>evC P T pr n b s'
   | r=>r
  | .block i c=>match evC P T pr n c s with
   | some (.exit j,s')=>some (if j=i then .normal else .exit j,s')
   | r=>r
  | .cond c a b=>match adF (s.ev c) with
   | some true=>evC P T pr n a s
   | some false=>evC P T pr n b s
   | none=>none
  | .loop c=>match evC P T pr n c s with
   | some (.normal,s')=>evC P T pr n (.loop c) s'
   | r=>r
  | .scope c=>evC P T pr n c s
  | .label _=>some (.normal,s)
  | .region _ ops draw=>match evR P T (ai2 P T pr (evC P T pr n)) draw ops s with
   | some (none,s')=>some (.normal,{s' with clk:=s'.clk+1})
   | some (some x,s')=>some (.pan x,{s' with clk:=s'.clk+1})
   | none=>none
  | _=>none
end Go.Pe
namespace Go.Pe
open RowKit
abbrev Mem:=Nat->Nat->Option Value
mutual
def Rep(m:Mem):C->Value->Prop
 | .any,_=>True
 | .undef,v=>v=undef
 | .lit u,v=>v=u/\u.oneCell'=true
 | .sl cs n,v=>∃ a cap vs,v=.slice a n cap/\n<=cap/\bv m cs vs/\(vs≠[]->∃ b o,a=some ⟨b,o,none⟩/\∀ i u,vs[i]?=some u->m b (o+i)=some u)
 | .ref cs,v=>∃ b o vs,v=.pointer (some ⟨b,o,none⟩)/\bv m cs vs/\∀ i u,vs[i]?=some u->m b (o+i)=some u
 | .fn f caps,v=>∃ vs:List Value,v=.func (.func f) #[] vs.toArray/\bv m caps vs
 | .agg cs,v=>∃ vs:List Value,v=.agg vs.toArray/\(∀ u∈vs,u.oneCell'=true)/\bv m cs vs
 | .tup cs,v=>∃ vs:List Value,v=.tuple vs.toArray/\bv m cs vs
 | .ifc t c,v=>∃ u,v=.iface t u/\Rep m c u
def bv(m:Mem):List C->List Value->Prop
 | [],vs=>vs=[]
 | c::cs,vs=>∃ v r,vs=v::r/\Rep m c v/\bv m cs r
end
def Mem.le(m m':Mem):Prop:=∀ b o v,m b o=some v->m' b o=some v
theorem Mem.le_refl(m:Mem):m.le m:=λ_ _ _ h=>h
theorem Mem.le_trans{a b c:Mem}(h:a.le b)(h':b.le c):a.le c:=λ_ _ _ x=>h' _ _ _ (h _ _ _ x)
theorem Rep.mono{m m':Mem}(h:m.le m'):∀ (c:C) (v:Value),Rep m c v->Rep m' c v :=
 C.rec (motive_1:=λc=>∀ v,Rep m c v->Rep m' c v) (motive_2:=λcs=>∀ vs,bv m cs vs->bv m' cs vs)
  (λ_ _=>by simp[Rep]) (λ_ h=>by simpa [Rep] using h) (λ_ _ h=>by simpa [Rep] using h)
  (λcs n ih v=>by
   simp only[Rep]
   rintro⟨a,cap,vs,rfl,hn,hl,hm⟩
   exact⟨a,cap,vs,rfl,hn,ih _ hl,λhne=>by
    obtain⟨b,o,ha,hc⟩:=hm hne
    exact⟨b,o,ha,λi u hu=>h _ _ _ (hc i u hu)⟩⟩)
  (λcs ih v=>by
   simp only[Rep]
   rintro⟨b,o,vs,rfl,hl,hm⟩
   exact⟨b,o,vs,rfl,ih _ hl,λi u hu=>h _ _ _ (hm i u hu)⟩)
  (λf cs ih v=>by simp only[Rep];rintro⟨vs,rfl,hl⟩;exact⟨vs,rfl,ih _ hl⟩)
  (λcs ih v=>by simp only[Rep];rintro⟨vs,rfl,h1,hl⟩;exact⟨vs,rfl,h1,ih _ hl⟩)
  (λcs ih v=>by simp only[Rep];rintro⟨vs,rfl,hl⟩;exact⟨vs,rfl,ih _ hl⟩)
  (λt c ih v=>by simp only[Rep];rintro⟨u,rfl,h⟩;exact⟨u,rfl,ih _ h⟩)
  (λvs h=>by simpa [bv] using h)
  (λc cs ih1 ih2 vs=>by simp only[bv];rintro⟨v,r,rfl,h1,h2⟩;exact⟨v,r,rfl,ih1 _ h1,ih2 _ h2⟩)
theorem bv.mono{m m':Mem}(h:m.le m'):∀ (cs:List C) (vs:List Value),bv m cs vs->bv m' cs vs
 | [],vs,hh=>by simpa [bv] using hh
 | c::cs,vs,hh=>by
  simp only[bv] at hh ⊢
  obtain⟨v,r,rfl,h1,h2⟩:=hh
  exact⟨v,r,rfl,Rep.mono h _ _ h1,bv.mono h _ _ h2⟩
theorem bv.length{m:Mem}:∀ {cs:List C} {vs:List Value},bv m cs vs->vs.length=cs.length
 | [],vs,h=>by simp only[bv] at h;simp[h]
 | c::cs,vs,h=>by
  simp only[bv] at h
  obtain⟨v,r,rfl,_,h2⟩:=h
  simp[bv.length h2]
theorem bv.get{m:Mem}:∀ {cs:List C} {vs:List Value},bv m cs vs->∀ (i:Nat) (c:C),cs[i]?=some c->∃ v,vs[i]?=some v/\Rep m c v
 | [],vs,h,i,c,hc=>by simp at hc
 | d::cs,vs,h,i,c,hc=>by
  simp only[bv] at h
  obtain⟨v,r,rfl,h1,h2⟩:=h
  cases i with
  | zero=>simp at hc;subst hc;exact⟨v,by simp,h1⟩
  | succ i=>simp at hc;simpa using bv.get h2 i c hc
theorem bv.drop{m:Mem}:∀ (k:Nat) {cs:List C} {vs:List Value},bv m cs vs->bv m (cs.drop k) (vs.drop k)
 | 0,cs,vs,h=>by simpa using h
 | k+1,[],vs,h=>by simp only[bv] at h;subst h;simp[bv]
 | k+1,c::cs,vs,h=>by
  simp only[bv] at h
  obtain⟨v,r,rfl,_,h2⟩:=h
  simpa using bv.drop k h2
theorem bv.take{m:Mem}:∀ (k:Nat) {cs:List C} {vs:List Value},bv m cs vs->bv m (cs.take k) (vs.take k)
 | 0,cs,vs,h=>by simp[bv]
 | k+1,[],vs,h=>by simp only[bv] at h;subst h;simp[bv]
 | k+1,c::cs,vs,h=>by
  simp only[bv] at h
  obtain⟨v,r,rfl,h1,h2⟩:=h
  simp only[dm,bv]
  exact⟨v,r.take k,rfl,h1,bv.take k h2⟩
theorem bv.append{m:Mem}:∀ {cs ds:List C} {vs us:List Value},bv m cs vs->bv m ds us->bv m (cs++ds) (vs++us)
 | [],ds,vs,us,h,h'=>by simp only[bv] at h;subst h;simpa using h'
 | c::cs,ds,vs,us,h,h'=>by
  simp only[bv] at h
  obtain⟨v,r,rfl,h1,h2⟩:=h
  simp only[cD,bv]
  exact⟨v,r++us,rfl,h1,bv.append h2 h'⟩
abbrev Own:=Tk->Option (Value×Nat×Nat×Nat)
structure Know where
 m:Mem
 μ:Nat->Option Nat
mutual
def aF(k:Know)(ow:Own):X->Value->Prop
 | .of c,v=>Rep k.m c v
 | .nil,v=>v=.slice none 0 0
 | .own t e z cs n,v=>ow t=some (v,e,z,n)/\cs.length=n*z/\Rep k.m (.sl cs n) v
 | .ptr r off,v=>∃ b,k.μ r=some b/\v=.pointer (some ⟨b,off,none⟩)
 | .mp r,v=>∃ b,k.μ r=some b/\v=.map (some b)
 | .clo f caps,v=>∃ vs:List Value,v=(if f % 2=0 then .func (.func (f / 2)) #[] vs.toArray else .func (.func (f / 2)) vs.toArray #[])/\aR k ow caps vs
 | .agg xs,v=>∃ vs:List Value,v=.agg vs.toArray/\(∀ u∈vs,u.oneCell'=true)/\aR k ow xs vs
 | .tup xs,v=>∃ vs:List Value,v=.tuple vs.toArray/\aR k ow xs vs
 | .nw none _ _,_=>True
 | .nw (some t) ty z,v=>∃ b,v=.pointer (some ⟨b,0,none⟩)/\ow t=some (.slice (some ⟨b,0,none⟩) 0 1,ty,z,0)
 | .top r e z,v=>ow (abQ r)=some (v,e,z,1)/\∃ b cap,k.μ r=some b/\v=.slice (some ⟨b,0,none⟩) 1 cap
def aR(k:Know)(ow:Own):List X->List Value->Prop
 | [],vs=>vs=[]
 | x::xs,vs=>∃ v r,vs=v::r/\aF k ow x v/\aR k ow xs r
end
def Know.le(k k':Know):Prop:=k.m.le k'.m/\∀ r b,k.μ r=some b->k'.μ r=some b
theorem Know.le_refl(k:Know):k.le k:=⟨λ_ _ _ h=>h,λ_ _ h=>h⟩
theorem Know.le_trans{a b c:Know}(h:a.le b)(h':b.le c):a.le c:=⟨Mem.le_trans h.1 h'.1,λ_ _ x=>h'.2 _ _ (h.2 _ _ x)⟩
def Own.sub(ow ow':Own):Prop:=∀ t p,ow t=some p->ow' t=some p
theorem aF.mono{k k':Know}{ow ow':Own}(h:k.le k')(ho:ow.sub ow'):∀ (x:X) (v:Value),aF k ow x v->aF k' ow' x v :=
 X.rec (motive_1:=λx=>∀ v,aF k ow x v->aF k' ow' x v) (motive_2:=λxs=>∀ vs,aR k ow xs vs->aR k' ow' xs vs)
  (λc v hh=>by simp only[aF] at hh ⊢;exact Rep.mono h.1 _ _ hh)
  (λv hh=>by simpa only [aF] using hh)
  (λt e z cs n v hh=>by simp only[aF] at hh ⊢;exact⟨ho _ _ hh.1,hh.2.1,Rep.mono h.1 _ _ hh.2.2⟩)
  (λr off v hh=>by simp only[aF] at hh ⊢;obtain⟨b,hb,hv⟩:=hh;exact⟨b,h.2 _ _ hb,hv⟩)
  (λr v hh=>by simp only[aF] at hh ⊢;obtain⟨b,hb,hv⟩:=hh;exact⟨b,h.2 _ _ hb,hv⟩)
  (λf xs ih v hh=>by simp only[aF] at hh ⊢;obtain⟨vs,hv,hl⟩:=hh;exact⟨vs,hv,ih _ hl⟩)
  (λxs ih v hh=>by simp only[aF] at hh ⊢;obtain⟨vs,hv,h1,hl⟩:=hh;exact⟨vs,hv,h1,ih _ hl⟩)
  (λxs ih v hh=>by simp only[aF] at hh ⊢;obtain⟨vs,hv,hl⟩:=hh;exact⟨vs,hv,ih _ hl⟩)
  (λo ty z v hh=>by
   cases o with
   | none=>simp[aF]
   | some t=>simp only[aF] at hh ⊢;obtain⟨b,hv,hl⟩:=hh;exact⟨b,hv,ho _ _ hl⟩)
  (λr e z v hh=>by simp only[aF] at hh ⊢;obtain⟨h1,b,cap,hb,hv⟩:=hh;exact⟨ho _ _ h1,b,cap,h.2 _ _ hb,hv⟩)
  (λvs hh=>by simpa only [aR] using hh)
  (λx xs ih1 ih2 vs hh=>by simp only[aR] at hh ⊢;obtain⟨v,r,hv,h1,h2⟩:=hh;exact⟨v,r,hv,ih1 _ h1,ih2 _ h2⟩)
theorem aR.mono{k k':Know}{ow ow':Own}(h:k.le k')(ho:ow.sub ow'):∀ (xs:List X) (vs:List Value),aR k ow xs vs->aR k' ow' xs vs
 | [],vs,hh=>by simpa only [aR] using hh
 | x::xs,vs,hh=>by
  simp only[aR] at hh ⊢
  obtain⟨v,r,hv,h1,h2⟩:=hh
  exact⟨v,r,hv,aF.mono h ho _ _ h1,aR.mono h ho _ _ h2⟩
def Own.del(ow:Own)(t:Tk):Own:=λt'=>if t'=t then none else ow t'
theorem aF.drop{k:Know}{ow:Own}(t:Tk)(hrow:t.isRow=false):∀ (x:X) (v:Value),aF k ow x v->aF k (ow.del t) (x.drop t) v :=
 X.rec (motive_1:=λx=>∀ v,aF k ow x v->aF k (ow.del t) (x.drop t) v) (motive_2:=λxs=>∀ vs,aR k ow xs vs->aR k (ow.del t) (X.drops t xs) vs)
  (λc v hh=>by simpa only [X.drop,aF] using hh)
  (λv hh=>by simpa only [X.drop,aF] using hh)
  (λt' e z cs n v hh=>by
   simp only[X.drop]
   split
   .simp only[aF] at hh ⊢;exact hh.2.2
   .rename_i hne
    simp only[aF] at hh ⊢
    exact⟨by simp only[Own.del,hne,av];exact hh.1,hh.2⟩)
  (λr off v hh=>by simpa only [X.drop,aF] using hh)
  (λr v hh=>by simpa only [X.drop,aF] using hh)
  (λf xs ih v hh=>by simp only[X.drop,aF] at hh ⊢;obtain⟨vs,hv,hl⟩:=hh;exact⟨vs,hv,ih _ hl⟩)
  (λxs ih v hh=>by simp only[X.drop,aF] at hh ⊢;obtain⟨vs,hv,h1,hl⟩:=hh;exact⟨vs,hv,h1,ih _ hl⟩)
  (λxs ih v hh=>by simp only[X.drop,aF] at hh ⊢;obtain⟨vs,hv,hl⟩:=hh;exact⟨vs,hv,ih _ hl⟩)
  (λo ty z v hh=>by
   cases o with
   | none=>simp[X.drop,agK,aF]
   | some t' =>
    simp only[X.drop,agK]
    split
    .simp[aF]
    .rename_i hne
     simp only[aF] at hh ⊢
     obtain⟨b,hv,hl⟩:=hh
     exact⟨b,hv,by simp only[Own.del,hne,av];exact hl⟩)
  (λr e z v hh=>by
   have hne:¬ abQ r=t:=λe=>by subst e;simp[Tk.isRow] at hrow
   simp only[X.drop,aF] at hh ⊢
   exact⟨by simp only[Own.del,hne,av];exact hh.1,hh.2⟩)
  (λvs hh=>by simpa only [X.drops,aR] using hh)
  (λx xs ih1 ih2 vs hh=>by simp only[X.drops,aR] at hh ⊢;obtain⟨v,r,hv,h1,h2⟩:=hh;exact⟨v,r,hv,ih1 _ h1,ih2 _ h2⟩)
theorem aR.drop{k:Know}{ow:Own}(t:Tk)(hrow:t.isRow=false):∀ (xs:List X) (vs:List Value),aR k ow xs vs->aR k (ow.del t) (X.drops t xs) vs
 | [],vs,hh=>by simpa only [X.drops,aR] using hh
 | x::xs,vs,hh=>by
  simp only[X.drops,aR] at hh ⊢
  obtain⟨v,r,hv,h1,h2⟩:=hh
  exact⟨v,r,hv,aF.drop t hrow _ _ h1,aR.drop t hrow _ _ h2⟩
theorem aR.length{k:Know}{ow:Own}:∀ {xs:List X} {vs:List Value},aR k ow xs vs->vs.length=xs.length
 | [],vs,h=>by simp only[aR] at h;simp[h]
 | c::cs,vs,h=>by
  simp only[aR] at h
  obtain⟨v,r,rfl,_,h2⟩:=h
  simp[aR.length h2]
theorem aR.get{k:Know}{ow:Own}:∀ {xs:List X} {vs:List Value},aR k ow xs vs->∀ (i:Nat) (x:X),xs[i]?=some x->∃ v,vs[i]?=some v/\aF k ow x v
 | [],vs,h,i,c,hc=>by simp at hc
 | d::cs,vs,h,i,c,hc=>by
  simp only[aR] at h
  obtain⟨v,r,rfl,h1,h2⟩:=h
  cases i with
  | zero=>simp at hc;subst hc;exact⟨v,by simp,h1⟩
  | succ i=>simp at hc;simpa using aR.get h2 i c hc
theorem aR.dropN{k:Know}{ow:Own}:∀ (n:Nat) {xs:List X} {vs:List Value},aR k ow xs vs->aR k ow (xs.drop n) (vs.drop n)
 | 0,cs,vs,h=>by simpa using h
 | n+1,[],vs,h=>by simp only[aR] at h;subst h;simp[aR]
 | n+1,c::cs,vs,h=>by
  simp only[aR] at h
  obtain⟨v,r,rfl,_,h2⟩:=h
  simpa using aR.dropN n h2
theorem aR.takeN{k:Know}{ow:Own}:∀ (n:Nat) {xs:List X} {vs:List Value},aR k ow xs vs->aR k ow (xs.take n) (vs.take n)
 | 0,cs,vs,h=>by simp[aR]
 | n+1,[],vs,h=>by simp only[aR] at h;subst h;simp[aR]
 | n+1,c::cs,vs,h=>by
  simp only[aR] at h
  obtain⟨v,r,rfl,h1,h2⟩:=h
  simp only[dm,aR]
  exact⟨v,r.take n,rfl,h1,aR.takeN n h2⟩
theorem aR.append{k:Know}{ow:Own}:∀ {cs ds:List X} {vs us:List Value},aR k ow cs vs->aR k ow ds us->aR k ow (cs++ds) (vs++us)
 | [],ds,vs,us,h,h'=>by simp only[aR] at h;subst h;simpa using h'
 | c::cs,ds,vs,us,h,h'=>by
  simp only[aR] at h
  obtain⟨v,r,rfl,h1,h2⟩:=h
  simp only[cD,aR]
  exact⟨v,r++us,rfl,h1,aR.append h2 h'⟩
theorem aR.of{k:Know}{ow:Own}:∀ {cs:List C} {vs:List Value},bv k.m cs vs->aR k ow (cs.map .of) vs
 | [],vs,h=>by simpa [bv,aR] using h
 | c::cs,vs,h=>by
  simp only[bv] at h
  obtain⟨v,r,rfl,h1,h2⟩:=h
  simp only[aU,aR,aF]
  exact⟨v,r,rfl,h1,aR.of h2⟩
def agB{k:Know}{ow:Own}:∀ (x:X) (c:C) (v:Value),x.rd=some c->aF k ow x v->Rep k.m c v :=
 X.rec (motive_1:=λx=>∀ c v,x.rd=some c->aF k ow x v->Rep k.m c v) (motive_2:=λxs=>∀ cs vs,X.rds xs=some cs->aR k ow xs vs->bv k.m cs vs)
  (λc c' v hr hh=>by simp only[X.rd,ab] at hr;subst hr;simpa only [aF] using hh)
  (λc' v hr hh=>by
   simp only[X.rd,ab] at hr
   subst hr
   simp only[aF] at hh
   subst hh
   simp only[Rep]
   exact⟨none,0,[],rfl,ae _,by simp[bv],λh=>absurd rfl h⟩)
  (λt e z cs n c' v hr hh=>by
   simp only[X.rd,ab] at hr
   subst hr
   simp only[aF] at hh
   exact hh.2.2)
  (λr off c' v hr hh=>by simp[X.rd] at hr)
  (λr c' v hr hh=>by simp[X.rd] at hr)
  (λf xs ih c' v hr hh=>by simp[X.rd] at hr)
  (λxs ih c' v hr hh=>by
   simp only[X.rd,ar] at hr
   obtain⟨cs,hcs,rfl⟩:=hr
   simp only[aF] at hh
   obtain⟨vs,rfl,h1,hl⟩:=hh
   simp only[Rep]
   exact⟨vs,rfl,h1,ih _ _ hcs hl⟩)
  (λxs ih c' v hr hh=>by simp[X.rd] at hr)
  (λt ty z c' v hr hh=>by simp[X.rd] at hr)
  (λr e z c' v hr hh=>by simp[X.rd] at hr)
  (λcs vs hr hh=>by
   simp only[X.rds,ab] at hr
   subst hr
   simpa only [aR,bv] using hh)
  (λx xs ih1 ih2 cs vs hr hh=>by
   simp only[X.rds] at hr
   split at hr
   .rename_i c cs' h1 h2
    simp only[ab] at hr
    subst hr
    simp only[aR] at hh
    obtain⟨v,r,rfl,hv,hl⟩:=hh
    simp only[bv]
    exact⟨v,r,rfl,ih1 _ _ h1 hv,ih2 _ _ h2 hl⟩
   .cases hr)
theorem akH{k:Know}{ow:Own}:∀ (xs:List X) (cs:List C) (vs:List Value),X.rds xs=some cs->aR k ow xs vs->bv k.m cs vs
 | [],cs,vs,hr,hh=>by
  simp only[X.rds,ab] at hr
  subst hr
  simpa only [aR,bv] using hh
 | x::xs,cs,vs,hr,hh=>by
  simp only[X.rds] at hr
  split at hr
  .rename_i c cs' h1 h2
   simp only[ab] at hr
   subst hr
   simp only[aR] at hh
   obtain⟨v,r,rfl,hv,hl⟩:=hh
   simp only[bv]
   exact⟨v,r,rfl,agB _ _ _ h1 hv,akH _ _ _ h2 hl⟩
  .cases hr
def ae3{k:Know}{ow:Own}{x:X}{xs:List X}{v:Value}(hc:cE x=some xs)(h:aF k ow x v) :
  aR k ow xs v.cells.toList/\∀ u∈v.cells.toList,u.oneCell'=true:=by
 have single:∀ (x:X),aF k ow x v->v.oneCell'=true->aR k ow [x] v.cells.toList/\∀ u∈v.cells.toList,u.oneCell'=true:=by
  intro x hx h1
  have:v.cells=#[v]:=by cases v <;> simp_all [Value.cells,Value.oneCell']
  rw[this]
  simp only[aR]
  exact⟨⟨v,[],rfl,hx,rfl⟩,by simpa using h1⟩
 cases x with
 | of c =>
  cases c with
  | any=>simp[cE] at hc
  | undef=>simp[cE] at hc
  | tup cs=>simp[cE] at hc
  | agg cs =>
   simp only[cE,ab] at hc
   subst hc
   simp only[aF,Rep] at h
   obtain⟨vs,rfl,h1,hl⟩:=h
   exact⟨by simpa [Value.cells] using aR.of hl,by simpa [Value.cells] using h1⟩
  | ifc t c =>
   simp only[cE,ab] at hc
   subst hc
   exact single _ h (by simp only[aF,Rep] at h;obtain⟨u,rfl,_⟩:=h;rfl)
  | lit u =>
   simp only[cE,ab] at hc
   subst hc
   exact single _ h (by simp only[aF,Rep] at h;rw[h.1];exact h.2)
  | sl cs n =>
   simp only[cE,ab] at hc
   subst hc
   exact single _ h (by simp only[aF,Rep] at h;obtain⟨a,cap,vs,rfl,_⟩:=h;rfl)
  | ref cs =>
   simp only[cE,ab] at hc
   subst hc
   exact single _ h (by simp only[aF,Rep] at h;obtain⟨a,cap,vs,rfl,_⟩:=h;rfl)
  | fn f cs =>
   simp only[cE,ab] at hc
   subst hc
   exact single _ h (by simp only[aF,Rep] at h;obtain⟨vs,rfl,_⟩:=h;rfl)
 | nil =>
  simp only[cE,ab] at hc
  subst hc
  exact single _ h (by simp only[aF] at h;subst h;rfl)
 | own t e z cs n =>
  simp only[cE,ab] at hc
  subst hc
  exact single _ h (by simp only[aF,Rep] at h;obtain⟨_,_,a,cap,vs,rfl,_⟩:=h;rfl)
 | ptr r off =>
  simp only[cE,ab] at hc
  subst hc
  exact single _ h (by simp only[aF] at h;obtain⟨b,_,rfl⟩:=h;rfl)
 | mp r =>
  simp only[cE,ab] at hc
  subst hc
  exact single _ h (by simp only[aF] at h;obtain⟨b,_,rfl⟩:=h;rfl)
 | clo f caps =>
  simp only[cE,ab] at hc
  subst hc
  exact single _ h (by simp only[aF] at h;obtain⟨b,rfl,_⟩:=h;split <;> rfl)
 | agg xs =>
  simp only[cE,ab] at hc
  subst hc
  simp only[aF] at h
  obtain⟨vs,rfl,h1,hl⟩:=h
  exact⟨by simpa [Value.cells] using hl,by simpa [Value.cells] using h1⟩
 | tup xs=>simp[cE] at hc
 | nw t ty z=>simp[cE] at hc
 | top r e z =>
  simp only[cE,ab] at hc
  subst hc
  exact single _ h (by simp only[aF] at h;obtain⟨_,b,cap,_,rfl⟩:=h;rfl)
structure Ren (σ:Nat->Option Nat) (ρ:Tk->Option Tk) (k k':Know) (ow ow':Own):Prop where
 m:k.m.le k'.m
 μ:∀ r b r',k.μ r=some b->σ r=some r'->k'.μ r'=some b
 ow:∀ t p t',ow t=some p->ρ t=some t'->ow' t'=some p
theorem aF.tr{σ:Nat->Option Nat}{ρ:Tk->Option Tk}{k k':Know}{ow ow':Own}(h:Ren σ ρ k k' ow ow'):∀ (x:X) (v:Value),aF k ow x v->aF k' ow' (x.tr σ ρ) v :=
 X.rec (motive_1:=λx=>∀ v,aF k ow x v->aF k' ow' (x.tr σ ρ) v) (motive_2:=λxs=>∀ vs,aR k ow xs vs->aR k' ow' (X.trs σ ρ xs) vs)
  (λc v hh=>by simp only[aF,X.tr] at hh ⊢;exact Rep.mono h.m _ _ hh)
  (λv hh=>by simpa only [aF,X.tr] using hh)
  (λt e z cs n v hh=>by
   simp only[aF,X.tr] at hh ⊢
   split
   .rename_i t' ht
    simp only[aF]
    exact⟨h.ow _ _ _ hh.1 ht,hh.2.1,Rep.mono h.m _ _ hh.2.2⟩
   .simp only[aF];exact Rep.mono h.m _ _ hh.2.2)
  (λr off v hh=>by
   simp only[aF,X.tr] at hh ⊢
   obtain⟨b,hb,hv⟩:=hh
   split
   .rename_i r' hr;simp only[aF];exact⟨b,h.μ _ _ _ hb hr,hv⟩
   .simp[aF,Rep])
  (λr v hh=>by
   simp only[aF,X.tr] at hh ⊢
   obtain⟨b,hb,hv⟩:=hh
   split
   .rename_i r' hr;simp only[aF];exact⟨b,h.μ _ _ _ hb hr,hv⟩
   .simp[aF,Rep])
  (λf xs ih v hh=>by simp only[aF,X.tr] at hh ⊢;obtain⟨vs,hv,hl⟩:=hh;exact⟨vs,hv,ih _ hl⟩)
  (λxs ih v hh=>by simp only[aF,X.tr] at hh ⊢;obtain⟨vs,hv,h1,hl⟩:=hh;exact⟨vs,hv,h1,ih _ hl⟩)
  (λxs ih v hh=>by simp only[aF,X.tr] at hh ⊢;obtain⟨vs,hv,hl⟩:=hh;exact⟨vs,hv,ih _ hl⟩)
  (λo ty z v hh=>by
   cases o with
   | none=>simp[X.tr,aF]
   | some t =>
    simp only[aF] at hh
    obtain⟨b,hv,hl⟩:=hh
    show aF k' ow' (.nw (ρ t) ty z) v
    cases ht:ρ t with
    | none=>simp[aF]
    | some t'=>simp only[aF];exact⟨b,hv,h.ow _ _ _ hl ht⟩)
  (λr e z v hh=>by
   simp only[aF] at hh
   obtain⟨h1,b,cap,hb,hv⟩:=hh
   simp only[X.tr]
   split
   .rename_i r' hr
    split
    .rename_i ht
     simp only[aF]
     exact⟨h.ow _ _ _ h1 ht,b,cap,h.μ _ _ _ hb hr,hv⟩
    .simp[aF,Rep]
   .simp[aF,Rep])
  (λvs hh=>by simpa only [aR,X.trs] using hh)
  (λx xs ih1 ih2 vs hh=>by simp only[aR,X.trs] at hh ⊢;obtain⟨v,r,hv,h1,h2⟩:=hh;exact⟨v,r,hv,ih1 _ h1,ih2 _ h2⟩)
theorem aR.tr{σ:Nat->Option Nat}{ρ:Tk->Option Tk}{k k':Know}{ow ow':Own}(h:Ren σ ρ k k' ow ow'):∀ (xs:List X) (vs:List Value),aR k ow xs vs->aR k' ow' (X.trs σ ρ xs) vs
 | [],vs,hh=>by simpa only [aR,X.trs] using hh
 | x::xs,vs,hh=>by
  simp only[aR,X.trs] at hh ⊢
  obtain⟨v,r,hv,h1,h2⟩:=hh
  exact⟨v,r,hv,aF.tr h _ _ h1,aR.tr h _ _ h2⟩
theorem adJ{α:Type}[DecidableEq α]:∀ {l:List α} {a:α} {i:Nat},pos l a=some i->l[i]?=some a
 | [],a,i,h=>by simp[pos] at h
 | b::l,a,i,h=>by
  simp only[pos] at h
  split at h
  .rename_i e
   simp only[ab] at h
   subst h;subst e
   rfl
  .simp only[ar] at h
   obtain⟨j,hj,rfl⟩:=h
   simpa using adJ hj
theorem aqt{α:Type}[DecidableEq α]:∀ {l:List α} {a:α},pos l a=none->a∉l
 | [],a,_=>by simp
 | b::l,a,h=>by
  simp only[pos] at h
  split at h
  .cases h
  .rename_i e
   simp only[Option.map_eq_none_iff] at h
   have:=aqt h
   simp only[bp,aii]
   exact⟨λe'=>e e'.symm,this⟩
theorem alv{α:Type}[DecidableEq α]:∀ (l seen:List α),seen.Nodup->(nub l seen).Nodup
 | [],seen,h=>h
 | a::l,seen,h=>by
  simp only[nub]
  split
  .exact alv l seen h
  .rename_i hn
   refine alv l _ ?_
   rw[List.nodup_append]
   exact⟨h,by simp,λx hx y hy=>by simp at hy;subst hy;exact λe=>hn (e▸hx)⟩
theorem ajb(objs:List Ob):∀ (n:Nat) (todo seen:List Nat),seen.Nodup->(dW objs n todo seen).Nodup
 | 0,_,seen,h=>h
 | _+1,[],seen,h=>h
 | n+1,r::todo,seen,h=>by
  simp only[dW]
  split
  .exact ajb objs n todo seen h
  .rename_i hn
   refine ajb objs n _ _ ?_
   rw[List.nodup_append]
   exact⟨h,by simp,λx hx y hy=>by simp at hy;subst hy;exact λe=>hn (e▸hx)⟩
theorem alQ(objs:List Ob):∀ (n:Nat) (todo seen:List Nat),∃ q,dW objs n todo seen=seen++q
 | 0,_,seen=>⟨[],by simp[dW]⟩
 | _+1,[],seen=>⟨[],by simp[dW]⟩
 | n+1,r::todo,seen=>by
  simp only[dW]
  split
  .exact alQ objs n todo seen
  .obtain⟨q,hq⟩:=alQ objs n (((objs[r]?).map Ob.refs).getD []++todo) (seen++[r])
   exact⟨r::q,by rw[hq];simp⟩
structure GP where
 holds:World->Prop
 blk:Nat->Prop
 keep:∀ w w',holds w->(∀ b,blk b->w'.heap[b]?=w.heap[b]?)->holds w'
structure Base where
 G:GP
 m:Mem
 mod:Nat->Prop
structure Keeps (M:Nat->Prop) (w w':World):Prop where
 os:w'.os=w.os
 tape:w'.tape=w.tape
 output:w'.output=w.output
 size:w.heap.size<=w'.heap.size
 block:∀ b,b<w.heap.size->¬ M b->w'.heap[b]?=w.heap[b]?
theorem Keeps.refl(M:Nat->Prop)(w:World):Keeps M w w:=⟨rfl,rfl,rfl,ae _,λ_ _ _=>rfl⟩
theorem Keeps.trans{M:Nat->Prop}{a b c:World}(h:Keeps M a b)(h':Keeps M b c):Keeps M a c :=
 ⟨h'.os.trans h.os,h'.tape.trans h.tape,h'.output.trans h.output,fJ h.size h'.size,λx hx hm=>(h'.block x (cG hx h.size) hm).trans (h.block x hx hm)⟩
theorem Keeps.below{M:Nat->Prop}{w w':World}(h:Below w.heap.size w w'):Keeps M w w':=⟨h.os,h.tape,h.output,h.size,λb hb _=>h.block b hb⟩
def agZ(M:Nat->Prop)(w0:World)(b:Nat):Prop:=w0.heap.size<=b\/M b
def adV(k:Know)(ow:Own)(w:World)(b:Nat):Ob->Prop
 | .var ty xs=>∃ (vs:List Value),w.heap[b]?=some (.cells vs.toArray ty (0,0))/\(∀ u∈vs,u.oneCell'=true)/\aR k ow xs vs
 | .map es=>∃ (ms:Array MapEntry) (cl:Nat),w.heap[b]?=some (.map ms cl)/\ms.toList.map (·.key)=es.map (·.1)/\bv k.m (es.map (·.2)) (ms.toList.map (·.val))
 | .row ty cs=>cs=[]\/∃ (vs sp:List Value),w.heap[b]?=some (.cells (vs++sp).toArray ty (0,0))/\(∀ u∈vs,u.oneCell'=true)/\bv k.m cs vs
def Liv(objs:List Ob)(r:Nat):Prop:=∃ ob,objs[r]?=some ob/\ob.live=true
def fQ(objs:List Ob)(n r:Nat):Prop:=∃ ty cs,objs[r]?=some (.row ty cs)/\cs.length<=n
def acG(σ:Nat->Option Nat)(ρ:Tk->Option Tk)(o:Ob):(o.tr σ ρ).live=o.live:=by cases o <;> rfl
def ahN(t:Tk)(o:Ob):(o.drop t).live=o.live:=by cases o <;> rfl
def ad1{f:Ob->Ob}(hf:∀ o,(f o).live=o.live){objs:List Ob}{r:Nat}(h:Liv (objs.map f) r):Liv objs r:=by
 obtain⟨ob,h1,h2⟩:=h
 rw[bo,ar] at h1
 obtain⟨o,h3,rfl⟩:=h1
 exact⟨o,h3,by rw[← hf];exact h2⟩
def agb{f:Ob->Ob}(hf:∀ ty cs,f (.row ty cs)=.row ty cs){objs:List Ob}{n r:Nat}(h:fQ objs n r):fQ (objs.map f) n r:=by
 obtain⟨ty,cs,h1,h2⟩:=h
 exact⟨ty,cs,by rw[bo,h1];exact congrArg some (hf ty cs),h2⟩
def ah8{objs:List Ob}{r:Nat}(h:fQ objs 0 r):¬ Liv objs r:=by
 obtain⟨ty,cs,h1,h2⟩:=h
 rintro⟨ob,h3,h4⟩
 obtain rfl:=ay (h1.symm.trans h3)
 have:cs=[]:=bK aC
 subst this
 cases h4
theorem fQ.mono{objs:List Ob}{n m r:Nat}(h:fQ objs n r)(hn:n<=m):fQ objs m r:=by
 obtain⟨ty,cs,h1,h2⟩:=h
 exact⟨ty,cs,h1,fJ h2 hn⟩
def akw{objs:List Ob}{n r:Nat}{ob:Ob}(h:objs[r]?=some ob)(hn:∀ ty cs,ob≠.row ty cs):¬ fQ objs n r:=by
 rintro⟨ty,cs,h1,_⟩
 exact hn ty cs (ay (h.symm.trans h1))
theorem adV.dead{k:Know}{ow:Own}{w:World}{b:Nat}{ob:Ob}(h:ob.live=false):adV k ow w b ob:=by
 cases ob with
 | var ty xs=>cases h
 | map es=>cases h
 | row ty cs=>cases cs with
  | nil=>exact .inl rfl
  | cons c cs=>cases h
def ano{objs:List Ob}{r:Nat}{ob:Ob}(h:objs[r]?=some ob)(hn:¬ Liv objs r):ob.live=false:=by
 cases hl:ob.live with
 | false=>rfl
 | true=>exact absurd ⟨ob,h,hl⟩ hn
def aeI{objs l:List Ob}{r:Nat}(h:Liv (objs++l) r)(hr:r<objs.length):Liv objs r:=by
 obtain⟨ob,h1,h2⟩:=h
 rw[ba hr] at h1
 exact⟨ob,h1,h2⟩
def aLn{objs:List Ob}{n r:Nat}(h:fQ objs n r):r<objs.length:=by
 obtain⟨ty,cs,h1,_⟩:=h
 exact (List.getElem?_eq_some_iff.1 h1).1
def alr{objs l:List Ob}{n r:Nat}(h:fQ objs n r):fQ (objs++l) n r:=by
 have hr:=aLn h
 obtain⟨ty,cs,h1,h2⟩:=h
 exact⟨ty,cs,by rw[ba hr];exact h1,h2⟩
def atS{objs:List Ob}{r r':Nat}{ob:Ob}(hne:r'≠r)(h:Liv (objs.set r ob) r'):Liv objs r':=by
 obtain⟨o,h1,h2⟩:=h
 rw[eu (bn hne)] at h1
 exact⟨o,h1,h2⟩
def aol{objs:List Ob}{n r r':Nat}{ob:Ob}(hne:r'≠r)(h:fQ objs n r'):fQ (objs.set r ob) n r':=by
 obtain⟨ty,cs,h1,h2⟩:=h
 exact⟨ty,cs,by rw[eu (bn hne)];exact h1,h2⟩
def azf{objs:List Ob}{r:Nat}(hr:r<objs.length)(hn:¬ Liv objs r):fQ objs 0 r:=by
 have h1:objs[r]?=some objs[r]:=aM hr
 generalize objs[r]=ob at h1
 have hl:=ano h1 hn
 cases ob with
 | var ty xs=>cases hl
 | map es=>cases hl
 | row ty cs=>cases cs with
  | nil=>exact⟨ty,[],h1,ae _⟩
  | cons c cs=>cases hl
structure Hp (M0:Base) (k:Know) (ow:Own) (w0 w:World) (objs:List Ob):Prop where
 good:M0.G.holds w0/\∀ b,M0.G.blk b->b<w0.heap.size/\¬ M0.mod b
 below:Keeps M0.mod w0 w
 mem:∀ b o v,k.m b o=some v->w.cell? ⟨b,o,none⟩=some v/\v.oneCell'=true
 obj:∀ r ob,objs[r]?=some ob->∃ b,k.μ r=some b/\agZ M0.mod w0 b/\b<w.heap.size/\(ob.live=true->∀ o,k.m b o=none)/\adV k ow w b ob
 dom:∀ r b,k.μ r=some b->r<objs.length
 inj:∀ r r' b,k.μ r=some b->k.μ r'=some b->Liv objs r->Liv objs r'->r=r'
 tok:∀ t v e z n,ow t=some (v,e,z,n)->(∃ xs,w.ownsRow 0 e z v n xs)/\∀ g,v.ownBlock=some g->agZ M0.mod w0 g/\(∀ o,n*z<=o->k.m g o=none)/\∀ r,k.μ r=some g->fQ objs (n*z) r/\(Liv objs r->t=abQ r)
 tokne:∀ t t' v e z n v' e' z' n',ow t=some (v,e,z,n)->ow t'=some (v',e',z',n')->t≠t'->∀ g,v.ownBlock=some g->v'.ownBlock≠some g
 m0:∀ b o v,k.m b o=some v->b<w0.heap.size->¬ M0.mod b->M0.m b o=some v
def Tk.older(clk:Nat)(done:Nat->Prop):Tk->Prop
 | .nm c ix _=>c<clk\/(c=clk/\done ix)
 | .cell ..=>True
structure Sim (M0:Base) (k:Know) (ow:Own) (done:Nat->Prop) (w0 w:World) (N:Nat) (s:S) (tmps:Array Value):Prop extends Hp M0 k ow w0 w s.objs where
 size:tmps.size=N
 fr:∀ j,aF k ow (s.fr j) (tmps.getD j undef)
 fresh:∀ t p,ow t=some p->t.older s.clk done
 cells:∀ r off p,ow (.cell r off)=some p->r<s.objs.length
def ag3{k:Know}{w:World}(h:∀ b o v,k.m b o=some v->w.cell? ⟨b,o,none⟩=some v/\v.oneCell'=true){b o:Nat}{v:Value}(hm:k.m b o=some v):b<w.heap.size :=
 World.block_lt_of_cell? (a:=⟨b,o,none⟩) w (h _ _ _ hm).1
def acX{w w':World}{B e z:Nat}{v:Value}{n:Nat}{xs:List Value}(h:∀ g,v.ownBlock=some g->g<w.heap.size->w'.heap[g]?=w.heap[g]?)(ho:w.ownsRow B e z v n xs):w'.ownsRow B e z v n xs:=by
 refine⟨ho.1,?_⟩
 rcases ho.2 with h2|⟨g,cap,cur,hv,hg,hh,r⟩
 .exact .inl h2
 .exact .inr ⟨g,cap,cur,hv,hg,by rw[h g (by rw[hv];rfl) (Array.getElem?_eq_some_iff.1 hh).1];exact hh,r⟩
def aEy{w:World}{B e z:Nat}{v:Value}{n:Nat}{xs:List Value}(ho:w.ownsRow B e z v n xs){g:Nat}(hg:v.ownBlock=some g):g<w.heap.size:=(ho.lt g hg).2
theorem adV.keep{k:Know}{ow:Own}{w w':World}{b:Nat}{ob:Ob}(hb:w'.heap[b]?=w.heap[b]?)(h:adV k ow w b ob):adV k ow w' b ob:=by
 cases ob <;> simp only[adV,hb] at h ⊢ <;> exact h
theorem adV.mono{k k':Know}{ow ow':Own}{w:World}{b:Nat}{ob:Ob}(hk:k.le k')(ho:ow.sub ow')(h:adV k ow w b ob):adV k' ow' w b ob:=by
 cases ob with
 | var ty xs =>
  obtain⟨vs,h1,h2,h3⟩:=h
  exact⟨vs,h1,h2,aR.mono hk ho _ _ h3⟩
 | map es =>
  obtain⟨ms,cl,h1,h2,h3⟩:=h
  exact⟨ms,cl,h1,h2,bv.mono hk.1 _ _ h3⟩
 | row ty cs =>
  rcases h with h|⟨vs,sp,h1,h2,h3⟩
  .exact .inl h
  .exact .inr ⟨vs,sp,h1,h2,bv.mono hk.1 _ _ h3⟩
theorem adV.tr{σ:Nat->Option Nat}{ρ:Tk->Option Tk}{k k':Know}{ow ow':Own}(hn:Ren σ ρ k k' ow ow'){w:World}{b:Nat}{ob:Ob}(h:adV k ow w b ob):adV k' ow' w b (ob.tr σ ρ):=by
 cases ob with
 | var ty xs =>
  obtain⟨vs,h1,h2,h3⟩:=h
  exact⟨vs,h1,h2,aR.tr hn _ _ h3⟩
 | map es =>
  obtain⟨ms,cl,h1,h2,h3⟩:=h
  exact⟨ms,cl,h1,h2,bv.mono hn.m _ _ h3⟩
 | row ty cs =>
  rcases h with h|⟨vs,sp,h1,h2,h3⟩
  .exact .inl h
  .exact .inr ⟨vs,sp,h1,h2,bv.mono hn.m _ _ h3⟩
theorem adV.drop{k:Know}{ow:Own}{w:World}{b:Nat}{ob:Ob}(t:Tk)(hrow:t.isRow=false)(h:adV k ow w b ob):adV k (ow.del t) w b (ob.drop t):=by
 cases ob with
 | var ty xs =>
  obtain⟨vs,h1,h2,h3⟩:=h
  exact⟨vs,h1,h2,aR.drop t hrow _ _ h3⟩
 | map es=>exact h
 | row ty cs=>exact h
section
variable {M0:Base} {k:Know} {ow:Own} {done:Nat->Prop} {w0 w w':World} {N:Nat} {s:S} {tmps:Array Value} {ds:List Deferred} {objs:List Ob}
theorem Hp.lt(h:Hp M0 k ow w0 w objs){r b:Nat}(hr:k.μ r=some b):agZ M0.mod w0 b/\b<w.heap.size/\(Liv objs r->∀ o,k.m b o=none):=by
 obtain⟨b',h2,h3,h4,h5,_⟩:=h.obj r _ (aM (h.dom r b hr))
 obtain rfl:=ay (h2.symm.trans hr)
 exact⟨h3,h4,fun⟨ob,g1,g2⟩=>h5 (by rw[aM (h.dom r b' hr)] at g1;obtain rfl:=ay g1;exact g2)⟩
theorem Hp.tlt(h:Hp M0 k ow w0 w objs){t:Tk}{v:Value}{e z n:Nat}(ht:ow t=some (v,e,z,n)){g:Nat}(hg:v.ownBlock=some g):agZ M0.mod w0 g/\g<w.heap.size:=by
 obtain⟨⟨xs,h1⟩,h2⟩:=h.tok t v e z n ht
 exact⟨(h2 g hg).1,aEy h1 hg⟩
theorem Hp.table(h:Hp M0 k ow w0 w objs):M0.G.holds w:=M0.G.keep w0 w h.good.1 λb hb=>h.below.block b (h.good.2 b hb).1 (h.good.2 b hb).2
theorem Hp.grow(h:Hp M0 k ow w0 w objs)(hb:Below w.heap.size w w'):Hp M0 k ow w0 w' objs where
 good:=h.good
 below:=h.below.trans (.below hb)
 mem:=λb o v hm=>by
  obtain⟨h1,h2⟩:=h.mem b o v hm
  exact⟨(hb.cell (p:=⟨b,o,none⟩) (ag3 h.mem hm)).trans h1,h2⟩
 obj:=λr ob hr=>by
  obtain⟨b,h1,h2,h3,h4,h5⟩:=h.obj r ob hr
  exact⟨b,h1,h2,cG h3 hb.size,h4,h5.keep (hb.block b h3)⟩
 dom:=h.dom
 inj:=h.inj
 tok:=λt v e z n ht=>by
  obtain⟨⟨xs,h1⟩,h2⟩:=h.tok t v e z n ht
  exact⟨⟨xs,acX (λg _ hg=>hb.block g hg) h1⟩,h2⟩
 tokne:=h.tokne
 m0:=h.m0
theorem Sim.grow(h:Sim M0 k ow done w0 w N s tmps)(hb:Below w.heap.size w w'):Sim M0 k ow done w0 w' N s tmps :=
 {h.toHp.grow hb with size:=h.size,fr:=h.fr,fresh:=h.fresh,cells:=h.cells}
theorem Sim.put(h:Sim M0 k ow done w0 w N s tmps)(d:Option Nat)(hd:∀ j,d=some j->j<N){x:X}{v:Value}(hx:aF k ow x v) :
  Sim M0 k ow done w0 w N (s.put d x) (Act.put ⟨tmps,ds⟩ d v).tmps:=by
 cases d with
 | none=>exact h
 | some d =>
  have hlt:=hd d rfl
  refine {h.toHp with size:=by simp[Act.put,h.size],fr:=λj=>?_,fresh:=h.fresh,cells:=h.cells}
  simp only[S.put,upd,Act.put]
  by_cases hj:j=d
  .subst hj
   simp only[au]
   have:(tmps.setIfInBounds j v).getD j undef=v:=by simp[h.size,hlt]
   rw[this]
   exact hx
  .rw[aj hj]
   have:(tmps.setIfInBounds d v).getD j undef=tmps.getD j undef:=by
    simp[be (bn hj)]
   rw[this]
   exact h.fr j
theorem Sim.del(h:Sim M0 k ow done w0 w N s tmps)(t:Tk)(hrow:t.isRow=false):Sim M0 k (ow.del t) done w0 w N (s.drop (some t)) tmps where
 good:=h.good
 size:=h.size
 below:=h.below
 fr:=λj=>aF.drop t hrow _ _ (h.fr j)
 mem:=h.mem
 obj:=λr ob hr=>by
  simp only[S.drop,bo,ar] at hr
  obtain⟨ob',h1,rfl⟩:=hr
  obtain⟨b,h2,h3,h4,h5,h6⟩:=h.obj r ob' h1
  exact⟨b,h2,h3,h4,λhl=>h5 (by rw[← ahN t];exact hl),h6.drop t hrow⟩
 dom:=λr b hr=>by simpa [S.drop] using h.dom r b hr
 inj:=λr r' b hr hr' hl hl'=>h.inj r r' b hr hr' (ad1 (ahN t) hl) (ad1 (ahN t) hl')
 tok:=λt' v e z n ht=>by
  simp only[Own.del] at ht
  split at ht
  .cases ht
  .obtain⟨g1,g2⟩:=h.tok t' v e z n ht
   exact⟨g1,λg hg=>⟨(g2 g hg).1,(g2 g hg).2.1,λr hr=>⟨agb (λ_ _=>rfl) ((g2 g hg).2.2 r hr).1,λhl=>((g2 g hg).2.2 r hr).2 (ad1 (ahN t) hl)⟩⟩⟩
 tokne:=λt t' v e z n v' e' z' n' ht ht'=>by
  simp only[Own.del] at ht ht'
  split at ht
  .cases ht
  .split at ht'
   .cases ht'
   .exact h.tokne t t' v e z n v' e' z' n' ht ht'
 fresh:=λt' p ht=>by
  simp only[Own.del] at ht
  split at ht
  .cases ht
  .exact h.fresh t' p ht
 cells:=λr off p ht=>by
  simp only[Own.del] at ht
  split at ht
  .cases ht
  .simpa [S.drop] using h.cells r off p ht
 m0:=h.m0
def Own.add(ow:Own)(t:Tk)(p:Value×Nat×Nat×Nat):Own:=λt'=>if t'=t then some p else ow t'
theorem Own.sub_add{ow:Own}{t:Tk}{p:Value×Nat×Nat×Nat}(h:ow t=none):ow.sub (ow.add t p):=λt' q hq=>by
 simp only[Own.add]
 split
 .rename_i e;subst e;rw[h] at hq;cases hq
 .exact hq
theorem Sim.add(h:Sim M0 k ow done w0 w N s tmps){c ix i:Nat}{v:Value}{e z n:Nat}{xs:List Value}(hn:ow (.nm c ix i)=none)
  (hrow:w.ownsRow 0 e z v n xs) (hm:∀ g,v.ownBlock=some g->agZ M0.mod w0 g/\(∀ o,n*z<=o->k.m g o=none)/\∀ r,k.μ r=some g->fQ s.objs 0 r)
  (hne:∀ t' v' e' z' n',ow t'=some (v',e',z',n')->∀ g,v.ownBlock=some g->v'.ownBlock≠some g)
  (hf:c<s.clk\/(c=s.clk/\done ix)):Sim M0 k (ow.add (.nm c ix i) (v,e,z,n)) done w0 w N s tmps where
 good:=h.good
 size:=h.size
 below:=h.below
 fr:=λj=>aF.mono (Know.le_refl k) (Own.sub_add hn) _ _ (h.fr j)
 mem:=h.mem
 obj:=λr ob hr=>by
  obtain⟨b,h2,h3,h4,h5,h6⟩:=h.obj r ob hr
  exact⟨b,h2,h3,h4,h5,h6.mono (Know.le_refl k) (Own.sub_add hn)⟩
 dom:=h.dom
 inj:=h.inj
 tok:=λt' v' e' z' n' ht=>by
  simp only[Own.add] at ht
  split at ht
  .simp only[bF] at ht
   obtain⟨rfl,rfl,rfl,rfl⟩:=ht
   exact⟨⟨xs,hrow⟩,λg hg=>⟨(hm g hg).1,(hm g hg).2.1,λr hr=>⟨((hm g hg).2.2 r hr).mono (aO _),λhl=>absurd hl (ah8 ((hm g hg).2.2 r hr))⟩⟩⟩
  .exact h.tok t' v' e' z' n' ht
 tokne:=λt1 t2 v1 e1 z1 n1 v2 e2 z2 n2 h1 h2 hne' g hg hg'=>by
  simp only[Own.add] at h1 h2
  split at h1
  .rename_i e1'
   simp only[bF] at h1
   obtain⟨rfl,rfl,rfl,rfl⟩:=h1
   split at h2
   .rename_i e2';exact hne' (e1'.trans e2'.symm)
   .exact hne _ _ _ _ _ h2 g hg hg'
  .split at h2
   .simp only[bF] at h2
    obtain⟨rfl,rfl,rfl,rfl⟩:=h2
    exact hne _ _ _ _ _ h1 g hg' hg
   .exact h.tokne t1 t2 _ _ _ _ _ _ _ _ h1 h2 hne' g hg hg'
 fresh:=λt' p ht=>by
  simp only[Own.add] at ht
  split at ht
  .rename_i e1;subst e1;exact hf
  .exact h.fresh t' p ht
 cells:=λr off p ht=>by
  simp only[Own.add] at ht
  split at ht
  .rename_i e1;cases e1
  .exact h.cells r off p ht
 m0:=h.m0
theorem Sim.more(h:Sim M0 k ow done w0 w N s tmps){done':Nat->Prop}(hd:∀ i,done i->done' i):Sim M0 k ow done' w0 w N s tmps :=
 {h.toHp with
  size:=h.size
  fr:=h.fr
  cells:=h.cells
  fresh:=λt p ht=>by
   have:=h.fresh t p ht
   cases t with
   | nm c ix i=>exact this.imp id (fun⟨a,b⟩=>⟨a,hd _ b⟩)
   | cell r off=>trivial}
theorem Sim.tick(h:Sim M0 k ow done w0 w N s tmps):Sim M0 k ow (λ_=>False) w0 w N {s with clk:=s.clk+1} tmps :=
 {h.toHp with
  size:=h.size
  fr:=h.fr
  cells:=h.cells
  fresh:=λt p ht=>by
   have:=h.fresh t p ht
   cases t with
   | nm c ix i =>
    refine .inl ?_
    rcases this with h|⟨h,_⟩ <;> simp only[] <;> omega
   | cell r off=>trivial}
theorem aOi{m:Mem}{v:Value}{c:C}(h:aOj v=some c):Rep m c v/\v.oneCell'=true:=by
 unfold aOj at h
 split at h <;> cases h <;> simp[Rep,bv,Value.oneCell']
theorem azg{m:Mem}:∀ {vs:List Value} {cs:List C},azh vs=some cs->bv m cs vs/\∀ u∈vs,u.oneCell'=true
 | [],cs,h=>by
  simp only[azh,ab] at h
  subst h
  exact⟨by simp[bv],by simp⟩
 | v::r,cs,h=>by
  simp only[azh] at h
  split at h
  .rename_i c cs' h1 h2
   obtain rfl:=ay h
   obtain⟨g1,g2⟩:=aOi (m:=m) h1
   obtain⟨g3,g4⟩:=azg (m:=m) h2
   refine⟨by simp only[bv];exact⟨v,r,rfl,g1,g3⟩,λu hu=>?_⟩
   rcases bp.1 hu with rfl|hu
   .exact g2
   .exact g4 u hu
  .cases h
theorem aOk{m:Mem}(vs:Array Value):Rep m (aOl vs.toList) (.agg vs):=by
 unfold aOl
 split
 .rename_i cs h
  obtain⟨g1,g2⟩:=azg (m:=m) h
  simp only[Rep]
  exact⟨vs.toList,by simp,g2,g1⟩
 .simp[Rep]
theorem auT(k:Know)(ow:Own)(v:Value):aF k ow (abv v) v:=by
 unfold abv
 split <;> first|(simp[aF,Rep,Value.oneCell'];done)|(simp only[aF];exact aOk _)
theorem Sim.ev(h:Sim M0 k ow done w0 w N s tmps)(x:Operand):aF k ow (s.ev x) ((⟨tmps,ds⟩ : Act).eval x):=by
 cases x with
 | tmp t=>exact h.fr t
 | const v=>exact auT k ow v
 | func f=>simp[S.ev,Act.eval,aF,Rep,bv]
 | global g=>simp[S.ev,aF,Rep]
def Own.re(ρ:Tk->Option Tk)(ow ow':Own):Prop :=
 (∀ t p t',ow t=some p->ρ t=some t'->ow' t'=some p)/\(∀ t' p,ow' t'=some p->∃ t,ow t=some p/\ρ t=some t')
theorem Sim.tr(h:Sim M0 k ow done w0 w N s tmps){ρ:Tk->Option Tk}{ow':Own}(hr:ow.re ρ ow')(hrow:∀ r v e z n g t',ow (abQ r)=some (v,e,z,n)->v.ownBlock=some g->k.μ r=some g->Liv s.objs r->ρ (abQ r)=some t'->t'=abQ r)(hf:∀ t p,ow' t=some p->t.older s.clk done)(hc:∀ r off p,ow' (.cell r off)=some p->r<s.objs.length) :
  Sim M0 k ow' done w0 w N (s.tr ρ) tmps :=
 have hn:Ren some ρ k k ow ow':=⟨λ_ _ _ h=>h,λr b r' hr he=>by cases he;exact hr,hr.1⟩
 {good:=h.good
  size:=h.size
  below:=h.below
  fr:=λj=>aF.tr hn _ _ (h.fr j)
  mem:=h.mem
  obj:=λr ob hr=>by
   simp only[S.tr,bo,ar] at hr
   obtain⟨ob',h1,rfl⟩:=hr
   obtain⟨b,h2,h3,h4,h5,h6⟩:=h.obj r ob' h1
   exact⟨b,h2,h3,h4,λhl=>h5 (by rw[← acG some ρ];exact hl),h6.tr hn⟩
  dom:=λr b hr=>by simpa [S.tr] using h.dom r b hr
  inj:=λr r' b hr hr' hl hl'=>h.inj r r' b hr hr' (ad1 (acG some ρ) hl) (ad1 (acG some ρ) hl')
  tok:=λt' v e z n ht=>by
   obtain⟨t,g1,g4⟩:=hr.2 _ _ ht
   obtain⟨g2,g3⟩:=h.tok t v e z n g1
   exact⟨g2,λg hg=>⟨(g3 g hg).1,(g3 g hg).2.1,λr hr=>⟨agb (λ_ _=>rfl) ((g3 g hg).2.2 r hr).1,λhl=>by
    have hl':=ad1 (acG some ρ) hl
    obtain rfl:=((g3 g hg).2.2 r hr).2 hl'
    exact hrow r v e z n g t' g1 hg hr hl' g4⟩⟩⟩
  tokne:=λt t' v e z n v' e' z' n' ht ht' hne=>by
   obtain⟨a,g1,g2⟩:=hr.2 _ _ ht
   obtain⟨b,g3,g4⟩:=hr.2 _ _ ht'
   exact h.tokne a b v e z n v' e' z' n' g1 g3 (λe=>hne (by subst e;rw[g2] at g4;exact ay g4))
  fresh:=hf
  cells:=λr off p ht=>by simpa [S.tr] using hc r off p ht
  m0:=h.m0}
end
structure TD.Ok (P:Program) (t:Nat) (d:TD):Prop where
 und:P.underlying t=some d.und
 info:∃ i,P.info? t=some i/\i.size=d.size/\i.bytes=d.bytes/\∃ z,i.zero=some z/\z.cells.toList=d.zero/\aoF z=aoG d.und
 agg:d.agg=aoG d.und
 one:∀ u∈d.zero,u.oneCell'=true
 len:d.zero.length=d.size
 fields:fieldsOf P d.und=some d.fields
theorem TT.of_ok{P:Program}{t:Nat}{d:TD}(h:TT.of P t=some d):TD.Ok P t d:=by
 unfold TT.of at h
 split at h
 .rename_i u i hu hi
  split at h
  .rename_i z fl hz hfl
   split at h
   .rename_i hc
    simp only[ab] at h
    subst h
    simp only[ap,List.all_eq_true,dw] at hc
    exact⟨hu,⟨i,hi,rfl,rfl,z,hz,rfl,hc.2⟩,rfl,hc.1.1,by simpa using hc.1.2,hfl⟩
   .cases h
  .cases h
 .cases h
theorem TD.Ok.run_und{P:Program}{t:Nat}{d:TD}(h:TD.Ok P t d)(w:World):(underlying t).run P w=.ok d.und w:=run_underlying h.und w
theorem TD.Ok.run_size{P:Program}{t:Nat}{d:TD}(h:TD.Ok P t d)(w:World):(sizeOf t).run P w=.ok d.size w:=by
 obtain⟨i,hi,hs,_⟩:=h.info
 simp[sizeOf,typeInfo,hi,hs]
theorem TD.Ok.run_isAgg{P:Program}{t:Nat}{d:TD}(h:TD.Ok P t d)(w:World):(isAgg t).run P w=.ok d.agg w:=by
 unfold isAgg
 rw[Sem.run_bind,h.run_und,Result.andThen_ok,h.agg]
 unfold aoG
 split <;> simp_all
theorem TD.Ok.run_zero{P:Program}{t:Nat}{d:TD}(h:TD.Ok P t d)(w:World):∃ z,(zeroValue t).run P w=.ok z w/\z.cells.toList=d.zero:=by
 obtain⟨i,hi,hs,_,z,hz,hz',_⟩:=h.info
 exact⟨z,by simp[zeroValue,typeInfo,hi,hz],hz'⟩
theorem TD.Ok.run_zero2{P:Program}{t:Nat}{d:TD}(h:TD.Ok P t d)(w:World):∃ z,(zeroValue t).run P w=.ok z w/\z.cells.toList=d.zero/\aoF z=d.agg:=by
 obtain⟨i,hi,hs,_,z,hz,hz',hz2⟩:=h.info
 exact⟨z,by simp[zeroValue,typeInfo,hi,hz],hz',by rw[h.agg,hz2]⟩
theorem TD.Ok.cells{P:Program}{t:Nat}{d:TD}(h:TD.Ok P t d):P.cellsOf t=d.size:=by
 obtain⟨i,hi,hs,_⟩:=h.info
 simp[Program.cellsOf,hi,hs]
section
variable {P:Program} {M0:Base} {k:Know} {ow:Own} {done:Nat->Prop} {w0 w:World} {N:Nat} {s:S} {tmps:Array Value}
theorem an1(a b:Int):(a == b)=decide (a=b):=by
 by_cases h:a=b <;> simp[h]
theorem aHy(a b:ByteArray):(a.toList == b.toList)=decide (a=b):=by
 rw[ByteArray.toList_eq,ByteArray.toList_eq]
 by_cases h:a=b
 .subst h;simp
 .have:¬ a.data=b.data:=λe=>h (by cases a;cases b;simp_all)
  simp[h,this]
theorem aqo(n:Nat){t:TypeId}(a b:Bool)(h:(underlying t).run P w=.ok .bool w):(Op.equalIn (n+1) t (.bool a) (.bool b)).run P w=.ok (a == b) w:=by
 simp[Op.equalIn,h]
theorem azJ{op:BinOp}{t:TypeId}{u v r:Value}(x y:Operand)(h:acl ((TT.of P t).map (·.und)) op u v=some r) :
  (do eqGuard op t x y u v;binOp op t u v).run P w=.ok r w/\r.oneCell'=true:=by
 unfold acl at h
 split at h
 .rename_i k a k' b
  split at h
  .rename_i hk
   subst hk
   unfold afw at h
   have hg:(eqGuard op t x y (.int k a) (.int k b)).run P w=.ok () w:=by
    cases op <;> simp[eqGuard]
   rw[Sem.run_bind,hg,Result.andThen_ok]
   cases op <;> simp only[ab,reduceCtorEq] at h
   case quo=>split at h <;> simp only[ab,reduceCtorEq] at h;rename_i hb;subst h;simp[binOp,Op.intDiv,hb,Value.oneCell']
   case rem=>split at h <;> simp only[ab,reduceCtorEq] at h;rename_i hb;subst h;simp[binOp,Op.intDiv,hb,Value.oneCell']
   all_goals
    subst h
    simp[binOp,Op.intArith,Op.intBits,Op.intCmp,Value.oneCell',an1,bne]
  .cases h
 .rename_i a b
  unfold aoU at h
  have hg:(eqGuard op t x y (.string a) (.string b)).run P w=.ok () w:=by
   cases op <;> simp[eqGuard]
  rw[Sem.run_bind,hg,Result.andThen_ok]
  cases op <;> simp only[ab,reduceCtorEq] at h
  case add =>
   split at h <;> simp only[ab,reduceCtorEq] at h
   rename_i hb
   subst h
   have:¬ ((a.size+b.size:Nat):Int)>IntKind.i64.max:=by
    unfold aj1 at hb
    have:IntKind.i64.max=9223372036854775807:=by decide
    omega
   simp only[binOp,Op.stringOp,aj this]
   exact⟨rfl,rfl⟩
  all_goals
   subst h
   simp only[binOp,Op.stringOp,aHy]
   exact⟨rfl,rfl⟩
 .rename_i a b
  split at h
  .rename_i hb
   cases hT:TT.of P t with
   | none=>simp[hT,amA] at hb
   | some d =>
    have hu:d.und=.bool:=by
     simp only[hT,aG] at hb
     unfold amA at hb
     split at hb
     .rename_i e;simpa using e
     .cases hb
    have hund:=(TT.of_ok hT).run_und w
    rw[hu] at hund
    unfold apN at h
    have hg:(eqGuard op t x y (.bool a) (.bool b)).run P w=.ok () w:=by
     cases op <;> simp[eqGuard]
    rw[Sem.run_bind,hg,Result.andThen_ok]
    have he:(Op.equal t (.bool a) (.bool b)).run P w=.ok (a == b) w:=by
     exact aqo 9999 a b hund
    cases op <;> simp only[ab,reduceCtorEq] at h
    all_goals
     subst h
     simp[binOp,he,Value.oneCell']
  .cases h
 .cases h
theorem avd{t:TypeId}{u:Value}(h:alW ((TT.of P t).map (·.und)) u=true) :
  ∃ d,TT.of P t=some d/\((∃ k' k n,d.und=.int k'/\u=.int k n)\/(∃ s,d.und=.string/\u=.string s)\/∃ b,d.und=.bool/\u=.bool b):=by
 cases hT:TT.of P t with
 | none=>simp[hT,alW] at h
 | some d =>
  refine⟨d,rfl,?_⟩
  simp only[hT,aG] at h
  unfold alW at h
  split at h
  .rename_i e;exact .inl ⟨_,_,_,by simpa using e,rfl⟩
  .rename_i e;exact .inr (.inl ⟨_,by simpa using e,rfl⟩)
  .rename_i e;exact .inr (.inr ⟨_,by simpa using e,rfl⟩)
  .cases h
theorem ayW{t:TypeId}{u:Value}(h:alW ((TT.of P t).map (·.und)) u=true)(xs:Array Value)(o:Nat)(hx:xs[o]?=some u):(part t xs o).run P w=.ok u w:=by
 obtain⟨d,hT,h⟩:=avd h
 have ok:=TT.of_ok hT
 have ha:d.agg=false:=by
  rw[ok.agg]
  rcases h with ⟨_,_,_,e,_⟩|⟨_,e,_⟩|⟨_,e,_⟩ <;> rw[e] <;> rfl
 unfold part
 rw[Sem.run_bind,ok.run_isAgg,Result.andThen_ok,ha]
 simp[hx]
theorem a0F{t:TypeId}{u v:Value}{b:Bool}(h:alW ((TT.of P t).map (·.und)) u=true)(he:akl u v=some b)(n:Nat):(Op.equalIn (n+1) t u v).run P w=.ok b w:=by
 obtain⟨d,hT,h⟩:=avd h
 have ok:=TT.of_ok hT
 rcases h with ⟨k',k,m,e,rfl⟩|⟨s,e,rfl⟩|⟨b',e,rfl⟩
 .unfold akl at he
  split at he
  .rename_i k1 a k2 c e1
   cases e1
   split at he
   .rename_i hk
    subst hk
    simp only[ab] at he
    subst he
    rw[Go.run_equalIn_int (P:=P) w n t k k' m c (by rw[ok.und,e]),an1]
   .cases he
  .rename_i e1;cases e1
  .rename_i e1;cases e1
  .cases he
 .unfold akl at he
  split at he
  .rename_i e1;cases e1
  .rename_i a c e1
   cases e1
   simp only[ab] at he
   subst he
   rw[Go.run_equalIn_string (P:=P) w n t s c (by rw[ok.und,e]),aHy]
  .rename_i e1;cases e1
  .cases he
 .unfold akl at he
  split at he
  .rename_i e1;cases e1
  .rename_i e1;cases e1
  .rename_i a c e1
   cases e1
   simp only[ab] at he
   subst he
   exact Go.run_equalIn_bool' (P:=P) w n t b' c (by rw[ok.und,e])
  .cases he
theorem aoK{m:Mem}{xs ys:Array Value}(n:Nat):∀ (fs:List Field) (o:Nat) (cs ds:List C) (vs us:List Value) (b:Bool),aeg (TT.of P) o fs cs ds=some b->xs.toList.drop o=vs->ys.toList.drop o=us->bv m cs vs->bv m ds us ->
  (Op.eqFields (n+1) xs ys fs).run P w=.ok b w
 | [],o,cs,ds,vs,us,b,h,_,_,_,_=>by
  have:b=true:=by
   cases cs with
   | nil=>cases ds with
    | nil=>simpa [aeg] using h.symm
    | cons d q=>simp[aeg] at h
   | cons c r=>simp[aeg] at h
  subst this
  simp[Op.eqFields]
 | f::fs,o,cs,ds,vs,us,b,h,hv,hu,rv,ru=>by
  obtain⟨u,r,v,q,rfl,rfl⟩ : ∃ u r v q,cs=.lit u::r/\ds=.lit v::q:=by
   cases cs with
   | nil=>simp[aeg] at h
   | cons c r=>cases c with
    | lit u=>cases ds with
     | nil=>simp[aeg] at h
     | cons d q=>cases d with
      | lit v=>exact⟨_,_,_,_,rfl,rfl⟩
      | _=>simp[aeg] at h
    | _=>simp[aeg] at h
  .unfold aeg at h
   split at h
   .rename_i hc
    simp only[ap,adG,dw] at hc
    obtain⟨⟨⟨h1,rfl⟩,h3⟩,h4⟩:=hc
    simp only[bv,Rep] at rv ru
    obtain⟨u,vr,rfl,⟨rfl,_⟩,rv⟩:=rv
    obtain⟨v,ur,rfl,⟨rfl,_⟩,ru⟩:=ru
    have gx:∀ (zs:Array Value) (z:Value) (zr:List Value),zs.toList.drop f.offset=z::zr->zs[f.offset]?=some z/\zs.toList.drop (f.offset+1)=zr:=λzs z zr hz=>by
     constructor
     .rw[← adx,← List.head?_drop,hz];rfl
     .rw[← agf,hz];rfl
    obtain⟨x1,x2⟩:=gx _ _ _ hv
    obtain⟨y1,y2⟩:=gx _ _ _ hu
    have p1:=ayW (w:=w) h3 xs f.offset x1
    have p2:=ayW (w:=w) h4 ys f.offset y1
    cases hq:akl u v with
    | none=>simp[hq] at h
    | some b' =>
     have p3:=a0F (w:=w) h3 hq n
     rw[Op.eqFields,am h1,Sem.run_bind,p1,Result.andThen_ok,Sem.run_bind,p2,Result.andThen_ok,Sem.run_bind,p3,Result.andThen_ok]
     cases b' with
     | true =>
      rw[hq] at h
      simpa using aoK n fs (f.offset+1) r q vr ur b h x2 y2 rv ru
     | false =>
      rw[hq] at h
      simp only[ab] at h
      subst h
      rfl
   .cases h
theorem azK{op:BinOp}{t:TypeId}{c d:Option C}{cx dx:C}{u v:Value}{z:X}{e:Option Tk}(x y:Operand){m:Mem}(h:agt P (TT.of P) t op c d=some (z,e))(hc:c=some cx)(hd:d=some dx)(ru:Rep m cx u)(rv:Rep m dx v) :
  ∃ b:Bool,z=aL b/\e=none/\(do eqGuard op t x y u v;binOp op t u v).run P w=.ok (.bool b) w:=by
 subst hc hd
 unfold agt at h
 split at h
 .rename_i cs ds e1 e2
  cases e1;cases e2
  simp only[Rep] at ru rv
  obtain⟨vs,rfl,_,ru⟩:=ru
  obtain⟨us,rfl,_,rv⟩:=rv
  have key:∀ b,afk P (TT.of P) t cs ds=some b->P.eqGuardType P.depth t=false/\(Op.equalIn 10000 t (.agg vs.toArray) (.agg us.toArray)).run P w=.ok b w:=λb hb=>by
   unfold afk at hb
   split at hb
   .rename_i fs _ _ _ _ _ hT
    split at hb
    .rename_i hc
     have ok:=TT.of_ok hT
     have hf:P.fieldsOf t=fs:=by simp[Program.fieldsOf,ok.und]
     refine⟨hc.2,?_⟩
     rw[Go.run_equalIn_struct (P:=P) w 9999 t _ _ (by rw[hf];exact ok.und) hc.1,hf]
     exact aoK 9998 fs.toList 0 cs ds vs us b hb rfl rfl ru rv
    .cases hb
   .cases hb
  split at h
  .obtain⟨b,hb,rfl,rfl⟩ : ∃ b,afk P (TT.of P) t cs ds=some b/\aL b=z/\none=e:=by
    simp only[bJ,ad8,ar,Function.comp,aX] at h
    obtain⟨b,h1,h2,h3⟩:=h
    exact⟨b,h1,h2,h3⟩
   obtain⟨h1,h2⟩:=key b hb
   refine⟨b,rfl,rfl,?_⟩
   rw[Sem.run_bind,Go.run_eqGuard_agg (P:=P) w .eql t x y _ _ h1,Result.andThen_ok,Go.run_eql_struct,h2]
   rfl
  .obtain⟨b,hb,rfl,rfl⟩ : ∃ b,afk P (TT.of P) t cs ds=some b/\aL (!b)=z/\none=e:=by
    simp only[bJ,ad8,ar,Function.comp,aX] at h
    obtain⟨b,h1,h2,h3⟩:=h
    exact⟨b,h1,h2,h3⟩
   obtain⟨h1,h2⟩:=key b hb
   refine⟨!b,rfl,rfl,?_⟩
   rw[Sem.run_bind,Go.run_eqGuard_agg (P:=P) w .neq t x y _ _ h1,Result.andThen_ok,Go.run_neq_struct,h2]
   rfl
  .cases h
 .cases h
theorem aAe{op:UnOp}{u r:Value}(h:arn op u=some r):(Op.unary op u).run P w=.ok r w/\r.oneCell'=true:=by
 unfold arn at h
 split at h
 .cases op <;> simp only[ab,reduceCtorEq] at h
  subst h
  simp[Op.unary,Op.intArith,Value.oneCell']
 .cases op <;> simp only[ab,reduceCtorEq] at h
  subst h
  simp[Op.unary,Value.oneCell']
 .cases h
theorem agG{x:X}{n:Int}{v:Value}(h:aaM x=some n)(hx:aF k ow x v):v=.int .i64 n:=by
 unfold aaM at h
 split at h
 .simp only[ab] at h
  subst h
  simp only[aF,Rep] at hx
  exact hx.1
 .cases h
theorem akP{x:X}{b:Bool}{v:Value}(h:adF x=some b)(hx:aF k ow x v):v=.bool b:=by
 unfold adF at h
 split at h
 .simp only[ab] at h
  subst h
  simp only[aF,Rep] at hx
  exact hx.1
 .cases h
theorem apO{x:X}{cs:List C}{n:Nat}{v:Value}(h:aaY x=some (cs,n))(hx:aF k ow x v):Rep k.m (.sl cs n) v:=by
 unfold aaY at h
 split at h
 .simp only[bF] at h
  obtain⟨rfl,rfl⟩:=h
  simp only[aF] at hx
  subst hx
  simp only[Rep]
  exact⟨none,0,[],rfl,ae _,by simp[bv],λh=>absurd rfl h⟩
 .simp only[bF] at h
  obtain⟨rfl,rfl⟩:=h
  simp only[aF] at hx
  exact hx.2.2
 .simp only[bF] at h
  obtain⟨rfl,rfl⟩:=h
  simpa only [aF] using hx
 .cases h
theorem agR{t:Nat}{d:TD}(hT:TT.of P t=some d)(b o:Nat)(vs:List Value)(hlen:d.size<=vs.length)
  (hc:∀ i u,vs[i]?=some u->w.cell? ⟨b,o+i,none⟩=some u) (h1:d.agg=false->0<vs.length) :
  (loadVar t ⟨b,o,none⟩).run P w=.ok (if d.agg then .agg (vs.take d.size).toArray else vs.headD undef) w:=by
 have ok:=TT.of_ok hT
 unfold loadVar
 rw[Sem.run_bind,ok.run_isAgg,Result.andThen_ok]
 cases hagg:d.agg with
 | true =>
  simp only[au,Sem.run_bind,ok.run_size,Result.andThen_ok]
  have hl:(loadCells ⟨b,o,none⟩ (vs.take d.size).length).run P w=.ok (vs.take d.size).toArray w :=
   run_loadCells_list (P:=P) w ⟨b,o,none⟩ (vs.take d.size) (λj v hv=>by
    rw[Addr.add_lit]
    refine hc j v ?_
    rw[List.getElem?_take] at hv
    split at hv
    .exact hv
    .cases hv)
  rw[aag,Nat.min_eq_left hlen] at hl
  rw[hl]
  rfl
 | false =>
  have:=h1 hagg
  cases vs with
  | nil=>simp at this
  | cons v r =>
   have h0:=hc 0 v aT
   simp only[aao] at h0
   simp[h0]
theorem aj8{t:Nat}{d:TD}{cs:List C}{c:C}{vs:List Value}(hT:TT.of P t=some d)(h:bm (TT.of P) t cs=some c)(hl:bv k.m cs vs)
  (h1:∀ u∈vs,u.oneCell'=true):d.size<=vs.length/\(d.agg=false->0<vs.length)/\Rep k.m c (if d.agg then .agg (vs.take d.size).toArray else vs.headD undef):=by
 unfold bm at h
 simp only[hT] at h
 split at h
 .rename_i hs
  have hs':d.size<=vs.length:=by rw[hl.length];exact hs
  refine⟨hs',?_⟩
  cases hagg:d.agg with
  | true =>
   simp only[hagg,au,ab] at h ⊢
   subst h
   refine⟨(λh=>(by cases h)),?_⟩
   simp only[Rep]
   exact⟨_,rfl,λu hu=>h1 u (acg hu),hl.take _⟩
  | false =>
   simp only[hagg,ah,av] at h ⊢
   split at h
   .rename_i c' r'
    simp only[ab] at h
    subst h
    simp only[bv] at hl
    obtain⟨v,r,rfl,hv,_⟩:=hl
    exact⟨by simp,by simpa using hv⟩
   .cases h
 .cases h
theorem aj7{t:Nat}{d:TD}{xs:List X}{x:X}{vs:List Value}(hT:TT.of P t=some d)(h:bC (TT.of P) t xs=some x)(hl:aR k ow xs vs)
  (h1:∀ u∈vs,u.oneCell'=true):d.size<=vs.length/\(d.agg=false->0<vs.length)/\aF k ow x (if d.agg then .agg (vs.take d.size).toArray else vs.headD undef):=by
 unfold bC at h
 simp only[hT] at h
 split at h
 .rename_i hs
  have hs':d.size<=vs.length:=by rw[hl.length];exact hs
  refine⟨hs',?_⟩
  cases hagg:d.agg with
  | true =>
   simp only[hagg,au,ab] at h ⊢
   subst h
   refine⟨(λh=>(by cases h)),?_⟩
   simp only[aF]
   exact⟨_,rfl,λu hu=>h1 u (acg hu),hl.takeN _⟩
  | false =>
   simp only[hagg,ah,av] at h ⊢
   split at h
   .rename_i c' r'
    simp only[ab] at h
    subst h
    simp only[aR] at hl
    obtain⟨v,r,rfl,hv,_⟩:=hl
    exact⟨by simp,by simpa using hv⟩
   .cases h
 .cases h
theorem aqv{T:TT}{t:Nat}{cs:List C}{c:C}(h:bm T t cs=some c):∃ d,T t=some d:=by
 unfold bm at h
 split at h
 .cases h
 .exact⟨_,‹_›⟩
theorem ax1{T:TT}{t:Nat}{cs:List X}{c:X}(h:bC T t cs=some c):∃ d,T t=some d:=by
 unfold bC at h
 split at h
 .cases h
 .exact⟨_,‹_›⟩
theorem arZ{objs:List Ob}(hs:Hp M0 k ow w0 w objs){t:Nat}{x y:X}{e:Option Tk}{v:Value}(h:abI (TT.of P) objs t x=some (y,e))(hx:aF k ow x v) :
  e=none/\∃ u,(Instr.loadAt t v).run P w=.ok u w/\aF k ow y u:=by
 unfold abI at h
 split at h
 .rename_i r off
  split at h
  .rename_i ty xs hr
   simp only[bJ,ar,aX] at h
   obtain⟨y',h,rfl,rfl⟩:=h
   obtain⟨b,hb,_,_,_,vs,hh,h1,hl⟩:=hs.obj r _ hr
   simp only[aF] at hx
   obtain⟨b',hb',rfl⟩:=hx
   obtain rfl:b'=b:=ay (hb'.symm.trans hb)
   obtain⟨d,hT⟩:=ax1 h
   obtain⟨g1,g2,g3⟩:=aj7 hT h (hl.dropN off) (λu hu=>h1 u (dP hu))
   refine⟨rfl,_,?_,g3⟩
   simp only[Instr.loadAt,Instr.sureAddr,Sem.run_bind,Sem.run_pure,Result.andThen_ok]
   refine agR hT b' off (vs.drop off) g1 (λi u hu=>?_) g2
   rw[cell_of_row w b' (off+i) vs.toArray ty (0,0) hh]
   rw[ef] at hu
   simpa using hu
  .rename_i ty c0 cs hr
   simp only[bJ,ar,aX] at h
   obtain⟨y',⟨c,h,rfl⟩,rfl,rfl⟩:=h
   obtain⟨b,hb,_,_,_,hob⟩:=hs.obj r _ hr
   rcases hob with h0|⟨vs,sp,hh,h1,hl⟩
   .cases h0
   simp only[aF] at hx
   obtain⟨b',hb',rfl⟩:=hx
   obtain rfl:b'=b:=ay (hb'.symm.trans hb)
   obtain⟨d,hT⟩:=aqv h
   obtain⟨g1,g2,g3⟩:=aj8 hT h (hl.drop off) (λu hu=>h1 u (dP hu))
   refine⟨rfl,_,?_,by simpa only [aF] using g3⟩
   simp only[Instr.loadAt,Instr.sureAddr,Sem.run_bind,Sem.run_pure,Result.andThen_ok]
   refine agR hT b' off (vs.drop off) g1 (λi u hu=>?_) g2
   rw[cell_of_row w b' (off+i) (vs++sp).toArray ty (0,0) hh]
   rw[ef] at hu
   have hlt:off+i<vs.length:=(List.getElem?_eq_some_iff.1 hu).1
   simpa [ba hlt] using hu
  .cases h
 .rename_i cs
  simp only[bJ,ar,aX] at h
  obtain⟨y',⟨c,h,rfl⟩,rfl,rfl⟩:=h
  simp only[aF,Rep] at hx
  obtain⟨b,o,vs,rfl,hl,hm⟩:=hx
  obtain⟨d,hT⟩:=aqv h
  have h1:∀ u∈vs,u.oneCell'=true:=λu hu=>by
   obtain⟨i,hi⟩:=List.mem_iff_getElem?.1 hu
   exact (hs.mem _ _ _ (hm i u hi)).2
  obtain⟨g1,g2,g3⟩:=aj8 hT h hl h1
  refine⟨rfl,_,?_,by simpa only [aF] using g3⟩
  simp only[Instr.loadAt,Instr.sureAddr,Sem.run_bind,Sem.run_pure,Result.andThen_ok]
  exact agR hT b o vs g1 (λi u hu=>(hs.mem _ _ _ (hm i u hu)).1) g2
 .cases h
theorem auZ{α β:Type}(f:α->Option β):∀ (l:List α) (r:List β),l.mapM f=some r->∀ (i:Nat) (y:β),r[i]?=some y->∃ x,l[i]?=some x/\f x=some y
 | [],r,h,i,y,hy=>by simp at h;subst h;simp at hy
 | a::l,r,h,i,y,hy=>by
  simp only[age,Option.bind_eq_bind,Option.pure_def,bD,ab] at h
  obtain⟨b,hb,q,hq,rfl⟩:=h
  cases i with
  | zero=>simp at hy;subst hy;exact⟨a,by simp,hb⟩
  | succ i=>simp at hy;simpa using auZ f l q hq i y hy
theorem ave{fs:Array Field}{fl':List (Nat×Nat)}{f:Nat}{o z:Nat}(h':fieldsOf P (.struct fs)=some fl')(h:fl'[f]?=some (o,z)) :
  ∃ fl,fs[f]?=some fl/\fl.offset=o/\∃ i,P.info? fl.type=some i/\i.size=z:=by
 obtain⟨x,h1,h2⟩:=auZ _ _ _ h' f _ h
 simp only[ar,aX] at h2
 obtain⟨i,hi,h3,h4⟩:=h2
 exact⟨x,by simpa using h1,h3,i,hi,h4⟩
theorem alD{t f:Nat}{x y:X}{e:Option Tk}{v:Value}(h:fP (TT.of P) t f x=some (y,e))(hx:aF k ow x v) :
  e=none/\∃ u,(Instr.fieldAt t v f).run P w=.ok u w/\aF k ow y u:=by
 unfold fP ai0 at h
 cases hT:TT.of P t with
 | none=>simp[hT] at h
 | some d =>
  have ok:=TT.of_ok hT
  simp only[hT,dh] at h
  cases hf:d.fields[f]? with
  | none=>simp[hf] at h
  | some oz =>
   obtain⟨o,z⟩:=oz
   simp only[hf] at h
   split at h
   .rename_i hz
    have hfl:=ok.fields
    have hund:∃ fs,d.und=.struct fs:=by
     unfold fieldsOf at hfl
     split at hfl
     .exact⟨_,‹_›⟩
     .simp only[ab] at hfl
      rw[← hfl] at hf
      simp at hf
    obtain⟨fs,hund⟩:=hund
    rw[hund] at hfl
    obtain⟨fl,h1,h2,h3⟩:=ave hfl hf
    have hru:=ok.run_und w
    rw[hund] at hru
    have hplace:∀ a:Addr,(fieldPlace a fl).run P w=.ok (a.add o) w:=λa=>by
     unfold fieldPlace
     obtain⟨i,hi,hiz⟩:=h3
     have hsz:(sizeOf fl.type).run P w=.ok z w:=by simp[sizeOf,typeInfo,hi,hiz]
     rw[Sem.run_bind,hsz,Result.andThen_ok,aj aC,h2]
     rfl
    split at h
    .rename_i r off
     simp only[out,bF] at h
     obtain⟨rfl,rfl⟩:=h
     simp only[aF] at hx
     obtain⟨b,hb,rfl⟩:=hx
     refine⟨rfl,.pointer (some ((⟨b,off,none⟩ : Addr).add o)),?_,?_⟩
     .simp[Instr.fieldAt,hru,h1,Instr.sureAddr,hplace]
     .simp only[aF,Addr.add_lit];exact⟨b,hb,rfl⟩
    .simp only[out,bF] at h
     obtain⟨rfl,rfl⟩:=h
     simp only[aF,Rep] at hx
     obtain⟨b,off,vs,rfl,hl,hm⟩:=hx
     refine⟨rfl,.pointer (some ((⟨b,off,none⟩ : Addr).add o)),?_,?_⟩
     .simp[Instr.fieldAt,hru,h1,Instr.sureAddr,hplace]
     .simp only[aF,Rep,Addr.add_lit]
      exact⟨b,off+o,vs.drop o,rfl,hl.drop o,λi u hu=>by
       rw[ef] at hu
       rw[bA]
       exact hm _ _ hu⟩
    .cases h
   .cases h
theorem ase{t:Nat}{x i y:X}{e:Option Tk}{v vi:Value}(h:bP (TT.of P) t x i=some (y,e))(hx:aF k ow x v)(hi:aF k ow i vi) :
  e=none/\∃ u,(Instr.indexAt t v vi).run P w=.ok u w/\aF k ow y u:=by
 unfold bP at h
 split at h
 .cases h
 .rename_i n hn
  obtain rfl:=agG hn hi
  split at h
  .rename_i el sz by_ ag ze fi hT
   have hru:=(TT.of_ok hT).run_und w
   simp only at hru
   split at h
   .rename_i d cs m hd hsl
    split at h
    .rename_i hc
     obtain⟨h0,hlt,hlen,hpos⟩:=hc
     simp only[out,bF] at h
     obtain⟨rfl,rfl⟩:=h
     have hs:=apO hsl hx
     simp only[Rep] at hs
     obtain⟨a,cap,vs,rfl,hcap,hl,hm⟩:=hs
     have hm0:0<m:=by omega
     have hvs:vs≠[]:=by
      intro e
      have:=hl.length
      rw[e,hlen] at this
      have:0<m*d.size:=ail hm0 hpos
      simp at *
      omega
     obtain⟨b,o,rfl,hm2⟩:=hm hvs
     refine⟨rfl,.pointer (some ((⟨b,o,none⟩ : Addr).add (n.toNat*d.size))),?_,?_⟩
     .simp[Instr.indexAt,asIntOf,hru,h0,hlt,(TT.of_ok hd).run_size]
     .simp only[aF,Rep,Addr.add_lit]
      exact⟨b,_,vs.drop (n.toNat*d.size),rfl,hl.drop _,λi u hu=>by
       rw[ef] at hu
       rw[bA]
       exact hm2 _ _ hu⟩
    .cases h
   .rename_i d hd _
    unfold aiB at h
    split at h
    .rename_i r e' z'
     split at h
     .rename_i hc
      obtain⟨rfl,rfl,rfl,hpos⟩:=hc
      simp only[out,bF] at h
      obtain⟨rfl,rfl⟩:=h
      simp only[aF] at hx
      obtain⟨_,b,cap,hb,rfl⟩:=hx
      refine⟨rfl,.pointer (some ((⟨b,0,none⟩ : Addr).add 0)),?_,?_⟩
      .simp[Instr.indexAt,asIntOf,hru,(TT.of_ok hd).run_size]
      .simp only[aF,Addr.add_lit];exact⟨b,hb,rfl⟩
     .cases h
    .cases h
   .cases h
  .rename_i len el sz by_ ag ze fi hT
   have hru:=(TT.of_ok hT).run_und w
   simp only at hru
   split at h
   .rename_i d hd
    split at h
    .rename_i hc
     split at h
     .rename_i r off
      simp only[out,bF] at h
      obtain⟨rfl,rfl⟩:=h
      simp only[aF] at hx
      obtain⟨b,hb,rfl⟩:=hx
      refine⟨rfl,.pointer (some ((⟨b,off,none⟩ : Addr).add (n.toNat*d.size))),?_,?_⟩
      .simp[Instr.indexAt,asIntOf,hru,hc.1,hc.2,(TT.of_ok hd).run_size,Instr.sureAddr]
      .simp only[aF,Addr.add_lit];exact⟨b,hb,rfl⟩
     .simp only[out,bF] at h
      obtain⟨rfl,rfl⟩:=h
      simp only[aF,Rep] at hx
      obtain⟨b,o,vs,rfl,hl,hm⟩:=hx
      refine⟨rfl,.pointer (some ((⟨b,o,none⟩ : Addr).add (n.toNat*d.size))),?_,?_⟩
      .simp[Instr.indexAt,asIntOf,hru,hc.1,hc.2,(TT.of_ok hd).run_size,Instr.sureAddr]
      .simp only[aF,Rep,Addr.add_lit]
       exact⟨b,_,vs.drop (n.toNat*d.size),rfl,hl.drop _,λi u hu=>by
        rw[ef] at hu
        rw[bA]
        exact hm _ _ hu⟩
     .cases h
    .cases h
   .cases h
  .cases h
end
section
variable {P:Program} {M0:Base} {k:Know} {ow:Own} {done:Nat->Prop} {w0 w:World} {N:Nat} {s:S} {tmps:Array Value}
theorem am8{t:Nat}{d:TD}(hT:TT.of P t=some d)(vs:List Value)(o:Nat)(h1:d.agg=false->o<vs.length) :
  (part t vs.toArray o).run P w=.ok (if d.agg then .agg ((vs.drop o).take d.size).toArray else (vs.drop o).headD undef) w:=by
 have ok:=TT.of_ok hT
 unfold part
 rw[Sem.run_bind,ok.run_isAgg,Result.andThen_ok]
 cases hagg:d.agg with
 | true =>
  simp only[au,Sem.run_bind,ok.run_size,Result.andThen_ok,Sem.run_pure]
  congr 2
  apply agH
  simp[acq]
 | false =>
  have hlt:=h1 hagg
  simp only[ah,av]
  have:vs.toArray[o]?=some vs[o]:=by simp[hlt]
  rw[this]
  simp only[Sem.run_pure]
  congr 1
  rw[ce hlt]
  rfl
theorem aA6{t f:Nat}{x y:X}{e:Option Tk}{v:Value}(h:ago (TT.of P) t f x=some (y,e))(hx:aF k ow x v) :
  e=none/\∃ u,(Instr.field t v f).run P w=.ok u w/\aF k ow y u:=by
 unfold ago at h
 split at h
 .rename_i d hT
  have ok:=TT.of_ok hT
  split at h
  .rename_i o z u hf hu
   have hfl:=ok.fields
   unfold apE at hu
   split at hu
   .rename_i fs i hund
    rw[hund] at hfl
    obtain⟨fl,h1,h2,_⟩:=ave hfl hf
    rw[h1] at hu
    simp only[aG,ab] at hu
    have hru:=ok.run_und w
    rw[hund] at hru
    split at h
    .rename_i xs
     simp only[bJ,ar,aX] at h
     obtain⟨y',h,rfl,rfl⟩:=h
     simp only[aF] at hx
     obtain⟨vs,rfl,hone,hl⟩:=hx
     obtain⟨d',hT'⟩:=ax1 h
     obtain⟨g1,g2,g3⟩:=aj7 hT' h (hl.dropN o) (λu hu=>hone u (dP hu))
     refine⟨rfl,_,?_,g3⟩
     have hp:=am8 (w:=w) hT' vs o (λha=>by have:=g2 ha;simp at this;omega)
     simp[Instr.field,hru,h1,asAgg,hu,h2,hp]
    .rename_i cs
     simp only[bJ,ar,aX] at h
     obtain⟨y',⟨c,h,rfl⟩,rfl,rfl⟩:=h
     simp only[aF,Rep] at hx
     obtain⟨vs,rfl,hone,hl⟩:=hx
     obtain⟨d',hT'⟩:=aqv h
     obtain⟨g1,g2,g3⟩:=aj8 hT' h (hl.drop o) (λu hu=>hone u (dP hu))
     refine⟨rfl,_,?_,by simpa only [aF] using g3⟩
     have hp:=am8 (w:=w) hT' vs o (λha=>by have:=g2 ha;simp at this;omega)
     simp[Instr.field,hru,h1,asAgg,hu,h2,hp]
    .cases h
   .cases hu
  .cases h
 .cases h
theorem axD{u:Option TypeDesc}(h:agk u=true):u=some .string:=by
 unfold agk at h
 split at h
 .rfl
 .cases h
theorem slD{u:Option TypeDesc}(h:aio u=true):∃ e,u=some (.slice e):=by
 unfold aio at h
 split at h
 .exact⟨_,rfl⟩
 .cases h
theorem ajp{t:Nat}{u:TypeDesc}(h:(TT.of P t).map (·.und)=some u):(underlying t).run P w=.ok u w:=by
 cases hT:TT.of P t with
 | none=>simp[hT] at h
 | some d =>
  simp only[hT,aG,ab] at h
  rw[← h]
  exact (TT.of_ok hT).run_und w
theorem aA0{t:Nat}{x i y:X}{e:Option Tk}{v vi:Value}(h:agm (TT.of P) t x i=some (y,e))(hx:aF k ow x v)(hi:aF k ow i vi) :
  e=none/\∃ u,(Instr.index t v vi).run P w=.ok u w/\aF k ow y u:=by
 unfold agm at h
 split at h
 .cases h
 .rename_i n hn
  obtain rfl:=agG hn hi
  split at h
  .rename_i st
   split at h
   .rename_i hc
    simp only[out,bF] at h
    obtain⟨rfl,rfl⟩:=h
    simp only[aF,Rep] at hx
    obtain⟨rfl,_⟩:=hx
    have hru:=ajp (w:=w) (axD hc.1)
    refine⟨rfl,.int .u8 (st[n.toNat]'hc.2.2).toNat,?_,by simp[aF,Rep,Value.oneCell']⟩
    have hg:st[n.toNat]?=some (st[n.toNat]'hc.2.2):=by simp[hc.2.2]
    simp[Instr.index,asIntOf,hru,hc.2.1,hg]
   .cases h
  .rename_i xs
   split at h
   .rename_i len el sz by_ ag ze fi hT
    have hru:=(TT.of_ok hT).run_und w
    simp only at hru
    split at h
    .rename_i d hd
     split at h
     .rename_i hc
      simp only[bJ,ar,aX] at h
      obtain⟨y',h,rfl,rfl⟩:=h
      simp only[aF] at hx
      obtain⟨vs,rfl,hone,hl⟩:=hx
      obtain⟨g1,g2,g3⟩:=aj7 hd h (hl.dropN _) (λu hu=>hone u (dP hu))
      refine⟨rfl,_,?_,g3⟩
      have hp:=am8 (w:=w) hd vs (n.toNat*d.size) (λha=>by have:=g2 ha;simp at this;omega)
      simp[Instr.index,asIntOf,hru,hc.1,hc.2,(TT.of_ok hd).run_size,hp]
     .cases h
    .cases h
   .cases h
  .rename_i cs
   split at h
   .rename_i len el sz by_ ag ze fi hT
    have hru:=(TT.of_ok hT).run_und w
    simp only at hru
    split at h
    .rename_i d hd
     split at h
     .rename_i hc
      simp only[bJ,ar,aX] at h
      obtain⟨y',⟨c,h,rfl⟩,rfl,rfl⟩:=h
      simp only[aF,Rep] at hx
      obtain⟨vs,rfl,hone,hl⟩:=hx
      obtain⟨g1,g2,g3⟩:=aj8 hd h (hl.drop _) (λu hu=>hone u (dP hu))
      refine⟨rfl,_,?_,by simpa only [aF] using g3⟩
      have hp:=am8 (w:=w) hd vs (n.toNat*d.size) (λha=>by have:=g2 ha;simp at this;omega)
      simp[Instr.index,asIntOf,hru,hc.1,hc.2,(TT.of_ok hd).run_size,hp]
     .cases h
    .cases h
   .cases h
  .cases h
theorem aI0{t ty:Nat}{x y:X}{e:Option Tk}{v:Value}(h:aah ((TT.of P t).map (·.und)) x=some (y,e))(hx:aF k ow x v) :
  e=none/\∃ u,(Builtin.len_ #[t] ty #[v]).run P w=.ok u w/\aF k ow y u:=by
 unfold aah at h
 split at h
 .rename_i st
  split at h
  .rename_i hs
   simp only[out,bF] at h
   obtain⟨rfl,rfl⟩:=h
   simp only[aF,Rep] at hx
   obtain⟨rfl,_⟩:=hx
   exact⟨rfl,.int .i64 st.size,by simp[Builtin.len_,ajp (w:=w) (axD hs),goInt],by simp[aF,Rep,Value.oneCell']⟩
  .cases h
 .split at h
  .rename_i cs n hsl
   split at h
   .rename_i hs
    obtain⟨el,hs⟩:=slD hs
    simp only[out,bF] at h
    obtain⟨rfl,rfl⟩:=h
    have hs2:=apO hsl hx
    simp only[Rep] at hs2
    obtain⟨a,cap,vs,rfl,_⟩:=hs2
    exact⟨rfl,.int .i64 n,by simp[Builtin.len_,ajp (w:=w) hs,goInt],by simp[aF,Rep,Value.oneCell']⟩
   .cases h
  .unfold akD at h
   split at h
   .split at h
    .rename_i hs
     obtain⟨el,hs⟩:=slD hs
     simp only[out,bF] at h
     obtain⟨rfl,rfl⟩:=h
     simp only[aF] at hx
     obtain⟨_,b,cap,_,rfl⟩:=hx
     exact⟨rfl,.int .i64 1,by simp[Builtin.len_,ajp (w:=w) hs,goInt],by simp[aF,Rep,Value.oneCell']⟩
    .cases h
   .cases h
theorem u8D{d:Option TD}(h:alB d=true):∃ dd,d=some dd/\dd.und=.int .u8/\dd.size=1:=by
 unfold alB at h
 split at h
 .exact⟨_,rfl,rfl,rfl⟩
 .cases h
theorem apT{m:Mem}:∀ (cs:List C) (vs:List Value) (l:List UInt8),afy cs=some l->bv m cs vs->∃ ns:List Int,vs=ns.map (Value.int .u8)/\l=ns.map λn=>UInt8.ofNat n.toNat
 | [],vs,l,h,hr=>by
  simp only[afy,ab] at h
  subst h
  simp only[bv] at hr
  subst hr
  exact⟨[],rfl,rfl⟩
 | c::cs,vs,l,h,hr=>by
  unfold afy at h
  split at h
  .rename_i e;cases e
  .rename_i n r e
   cases e
   simp only[ar] at h
   obtain⟨q,hq,rfl⟩:=h
   simp only[bv,Rep] at hr
   obtain⟨v,rest,rfl,⟨rfl,_⟩,hr⟩:=hr
   obtain⟨ns,rfl,rfl⟩:=apT _ rest q hq hr
   exact⟨n::ns,rfl,rfl⟩
  .cases h
theorem aBc(hm:∀ b o v,k.m b o=some v->w.cell? ⟨b,o,none⟩=some v){a b:Nat}{x y:X}{e:Option Tk}{v:Value}(hb:(TT.of P b).map (·.und)=some .string)(h:ajm (TT.of P) (TT.of P a) x=some (y,e))(hx:aF k ow x v) :
  e=none/\∃ u,(convert a b v).run P w=.ok u w/\aF k ow y u:=by
 unfold ajm at h
 split at h
 .rename_i e' _ _ _ _ _ cs n hT hsl
  split at h
  .rename_i hc
   obtain⟨h8,hlen⟩:=hc
   obtain⟨l,hl,hy⟩ : ∃ l,afy cs=some l/\y=af4 ⟨l.toArray⟩/\e=none:=by
    cases hu:afy cs with
    | none=>simp[hu,bJ] at h
    | some l=>simp only[hu,bJ,aG,bF] at h;exact⟨l,rfl,h.1.symm,h.2.symm⟩
   obtain⟨rfl,rfl⟩:=hy
   refine⟨rfl,?_⟩
   have hund:P.underlying a=some (.slice e'):=(TT.of_ok hT).und
   obtain⟨dd,hd1,hd2,_⟩:=u8D h8
   have hu8:P.underlying e'=some (.int .u8):=by rw[← hd2];exact (TT.of_ok hd1).und
   have hst:P.underlying b=some .string:=by
    cases hTb:TT.of P b with
    | none=>simp[hTb] at hb
    | some d2=>simp only[hTb,aG,ab] at hb;rw[← hb];exact (TT.of_ok hTb).und
   have hr:=apO hsl hx
   simp only[Rep] at hr
   obtain⟨A,cap,vs,rfl,hcap,hvl,hmem⟩:=hr
   obtain⟨ns,rfl,rfl⟩:=apT cs vs l hl hvl
   have hnl:ns.length=n:=by have:=hvl.length;simp only[bR] at this;omega
   by_cases hne:ns=[]
   .subst hne
    simp only[aW] at hnl
    subst hnl
    refine⟨.string ByteArray.empty,?_,by simp[aF,Rep,Value.oneCell'];rfl⟩
    cases A with
    | none=>exact run_convert_bytes_nil w a e' hund hu8 0 cap b hst
    | some ad =>
     rw[run_convert_bytes_string w a b e' _ 0 cap hund hu8 hst]
     have h0:(loadCells ad 0).run P w=.ok #[] w:=by simp[loadCells,loadCellsFrom]
     have:=run_bytesToString (P:=P) w ad 0 cap [] (by simpa using h0)
     simpa using this
   .obtain⟨bb,o,rfl,hcell⟩:=hmem (by simpa using hne)
    refine⟨.string (strOfNums ns),run_convert_bytes_arg w a e' hund hu8 bb o n cap ns hnl (λi hi=>?_) b hst,by simp[aF,Rep,Value.oneCell',strOfNums]⟩
    have hi':(ns.map (Value.int .u8))[i]?=some (.int .u8 (ns.getD i 0)):=by
     have:i<ns.length:=by omega
     simp[List.getD,this]
    exact hm _ _ _ (hcell i _ hi')
  .cases h
 .cases h
theorem avT(hm:∀ b o v,k.m b o=some v->w.cell? ⟨b,o,none⟩=some v){a b:Nat}{x y:X}{e:Option Tk}{v:Value}(h:adf (TT.of P) a b x=some (y,e))(hx:aF k ow x v) :
  e=none/\∃ u,(convert a b v).run P w=.ok u w/\aF k ow y u:=by
 unfold adf at h
 split at h
 .rename_i d kk kk' n hd hT
  simp only[out,bF] at h
  obtain⟨rfl,rfl⟩:=h
  simp only[aF,Rep] at hx
  obtain⟨rfl,_⟩:=hx
  refine⟨rfl,.int kk (kk.wrap n),?_,by simp[aF,Rep,Value.oneCell']⟩
  simp[convert,(TT.of_ok hd).run_und,ajp (w:=w) hT,Conv.intToInt]
 .rename_i d s' hd hT
  simp only[out,bF] at h
  obtain⟨rfl,rfl⟩:=h
  simp only[aF,Rep] at hx
  obtain⟨rfl,_⟩:=hx
  refine⟨rfl,.string s',?_,by simp[aF,Rep,Value.oneCell']⟩
  simp[convert,(TT.of_ok hd).run_und,ajp (w:=w) hT]
 .rename_i hT _
  exact aBc hm hT h hx
 .cases h
theorem ais{t e:Nat}{d:TD}(h:elemOf (TT.of P) t=some (e,d)):(TT.of P t).map (·.und)=some (.slice e)/\TT.of P e=some d:=by
 unfold elemOf at h
 split at h
 .rename_i el _ _ _ _ _ hT
  simp only[ar,aX] at h
  obtain⟨d',hd,rfl,rfl⟩:=h
  exact⟨by simp[hT],hd⟩
 .cases h
def aGX(k:Know)(ow:Own):Option X->Option Value->Prop
 | none,none=>True
 | some x,some v=>aF k ow x v
 | _,_=>False
theorem apn{x:Option X}{n d:Int}{v:Option Value}(h:afm d x=some n)(hx:aGX k ow x v):(v=none/\n=d)\/v=some (.int .i64 n):=by
 cases x with
 | none =>
  cases v with
  | none=>simp only[afm,ab] at h;exact .inl ⟨rfl,h.symm⟩
  | some v=>exact hx.elim
 | some x =>
  cases v with
  | none=>exact hx.elim
  | some v=>exact .inr (by rw[agG h hx])
theorem am9{sl:Bool}{len cap:Nat}{l h:Int}{vl vh:Option Value}(hl:(vl=none/\l=0)\/vl=some (.int .i64 l))(hh:(vh=none/\h=(len:Int))\/vh=some (.int .i64 h))
  (h0:0<=l) (h1:l<=h) (h2:h<=(cap:Int)):(Instr.sliceBounds sl len cap vl vh none).run P w=.ok (l.toNat,h.toNat,cap) w:=by
 have b1:0<=h:=by omega
 have b2:(h.toNat:Int)=h:=by omega
 rcases hl with ⟨rfl,rfl⟩|rfl <;> rcases hh with ⟨rfl,rfl⟩|rfl
 .simp[Instr.sliceBounds]
 .simp[Instr.sliceBounds,Instr.sliceBound,asIntOf,b1,h2]
 .have:l<=(len:Int):=h1
  simp[Instr.sliceBounds,Instr.sliceBound,asIntOf,h0,this]
 .have:l<=(h.toNat:Int):=by omega
  simp[Instr.sliceBounds,Instr.sliceBound,asIntOf,b1,h2,h0]
  intro hlt
  omega
theorem aAr{t:Nat}{x y:X}{lo hi:Option X}{e:Option Tk}{v:Value}{vl vh:Option Value}(h:acA (TT.of P) t x lo hi=some (y,e))(hx:aF k ow x v)
  (hl:aGX k ow lo vl) (hh:aGX k ow hi vh) :
  e=none/\∃ u,(Instr.sliceAt t v vl vh none).run P w=.ok u w/\aF k ow y u:=by
 unfold acA at h
 split at h
 .rename_i st
  split at h
  .rename_i hs
   split at h
   .rename_i l h' e1 e2
    split at h
    .rename_i hc
     simp only[out,bF] at h
     obtain⟨rfl,rfl⟩:=h
     simp only[aF,Rep] at hx
     obtain⟨rfl,_⟩:=hx
     have hru:=ajp (w:=w) (axD hs)
     have r1:(vl=none/\l=0)\/vl=some (.int .i64 l):=apn e1 hl
     have r2:(vh=none/\h'=(st.size:Int))\/vh=some (.int .i64 h'):=apn e2 hh
     refine⟨rfl,.string (st.extract l.toNat h'.toNat),?_,by simp[aF,Rep,Value.oneCell']⟩
     simp[Instr.sliceAt,Instr.slice,hru,am9 (P:=P) (w:=w) (sl:=false) r1 r2 hc.1 hc.2.1 hc.2.2]
    .cases h
   .cases h
  .cases h
 .split at h
  .rename_i el d cs n he hsl
   split at h
   .rename_i l h' e1 e2
    split at h
    .rename_i hc
     obtain⟨c1,c2,c3,c4⟩:=hc
     simp only[out,bF] at h
     obtain⟨rfl,rfl⟩:=h
     obtain⟨hund,hd⟩:=ais he
     have hru:=ajp (w:=w) hund
     have hs:=apO hsl hx
     simp only[Rep] at hs
     obtain⟨a,cap,vs,rfl,hcap,hvl,hm⟩:=hs
     have r1:(vl=none/\l=0)\/vl=some (.int .i64 l):=apn e1 hl
     have r2:(vh=none/\h'=(n:Int))\/vh=some (.int .i64 h'):=apn e2 hh
     have hb:=am9 (P:=P) (w:=w) (sl:=true) (cap:=cap) r1 r2 c1 c2 aC
     refine⟨rfl,.slice (if cap=l.toNat then a else a.map (·.add (l.toNat*d.size))) (h'.toNat-l.toNat) (cap-l.toNat),?_,?_⟩
     .simp[Instr.sliceAt,Instr.slice,hru,hb,(TT.of_ok hd).run_size]
     .simp only[aF,Rep]
      refine⟨_,_,(vs.drop (l.toNat*d.size)).take ((h'.toNat-l.toNat)*d.size),rfl,by omega,(hvl.drop _).take _,λhne=>?_⟩
      have hlt:l.toNat<h'.toNat:=by
       rcases aD l.toNat h'.toNat with g|g
       .exact g
       .have:h'.toNat-l.toNat=0:=by omega
        rw[this] at hne
        simp at hne
      have hvs:vs≠[]:=by
       rintro rfl
       simp at hne
      obtain⟨b,o,rfl,hm2⟩:=hm hvs
      rw[aj aC]
      refine⟨b,o+l.toNat*d.size,by simp[Addr.add_lit],λi u hu=>?_⟩
      rw[List.getElem?_take] at hu
      split at hu
      .rw[ef] at hu
       rw[bA]
       exact hm2 _ _ hu
      .cases hu
    .cases h
   .cases h
  .cases h
theorem ayQ(off:Nat):∀ (vs:List Value) (cells:Array Value) (j:Nat),off+j+vs.length<=cells.size ->
  ((vs.zipIdx j).foldl (λcs p=>cs.setIfInBounds (off+p.2) p.1) cells).toList=cells.toList.take (off+j)++vs++cells.toList.drop (off+j+vs.length)
 | [],cells,j,_=>by simp
 | v::r,cells,j,h=>by
  simp only[aN] at h
  simp only[List.zipIdx_cons,adS]
  rw[ayQ off r (cells.setIfInBounds (off+j) v) (j+1) (by simp;omega)]
  have hlt:off+j<cells.toList.length:=by simp;omega
  have e1:(cells.setIfInBounds (off+j) v).toList=cells.toList.set (off+j) v:=by simp
  rw[e1]
  have e2:(cells.toList.set (off+j) v).take (off+(j+1))=cells.toList.take (off+j)++[v]:=by
   rw[← bA,List.take_succ_eq_append_getElem (by simpa using hlt)]
   simp[List.take_set_of_le]
  have e3:(cells.toList.set (off+j) v).drop (off+(j+1)+r.length)=cells.toList.drop (off+j+(v::r).length):=by
   rw[List.drop_set_of_lt aC]
   congr 1
   simp only[aN]
   omega
  rw[e2,e3]
  simp
theorem aNT(vs:List Value)(cells:Array Value)(off:Nat)(h:off+vs.length<=cells.size) :
  (vs.toArray.zipIdx.foldl (λcs (c,j)=>cs.setIfInBounds (off+j) c) cells).toList=cells.toList.take off++vs++cells.toList.drop (off+vs.length):=by
 rw[← Array.foldl_toList,Array.toList_zipIdx]
 exact ayQ off vs cells 0 (by simpa using h)
end
section
variable {P:Program} {M0:Base} {k:Know} {ow:Own} {done:Nat->Prop} {w0 w:World} {N:Nat} {s:S} {tmps:Array Value}
inductive RepParts (k:Know) (ow:Own):List (Nat×List X)->List (Nat×Value)->Prop where
 | nil:RepParts k ow [] []
 | cons {i:Nat} {xs:List X} {v:Value} {qs:List (Nat×List X)} {ps:List (Nat×Value)} (h:aR k ow xs v.cells.toList) (h1:∀ u∈v.cells.toList,u.oneCell'=true)
   (r:RepParts k ow qs ps):RepParts k ow ((i,xs)::qs) ((i,v)::ps)
theorem anh{f:Operand->X}{g:Operand->Value}(hf:∀ x,aF k ow (f x) (g x)):∀ (ps:List (Nat×Operand)) (qs:List (Nat×List X)),aad f ps=some qs->RepParts k ow qs (ps.map λp=>(p.1,g p.2))
 | [],qs,h=>by simp only[aad,ab] at h;subst h;exact .nil
 | (i,x)::r,qs,h=>by
  simp only[aad] at h
  split at h
  .rename_i l q hl hq
   simp only[ab] at h
   subst h
   obtain⟨h1,h2⟩:=ae3 hl (hf x)
   exact .cons h1 h2 (anh hf r q hq)
  .cases h
theorem anF(place:Nat->Option (Nat×Nat)):∀ {qs:List (Nat×List X)} {ps:List (Nat×Value)} {cells r:List X} {vals:Array Value},RepParts k ow qs ps->aax place cells qs=some r ->
  aR k ow cells vals.toList->(∀ u∈vals.toList,u.oneCell'=true)->∃ o,Instr.fill place vals ps=some o/\aR k ow r o.toList/\∀ u∈o.toList,u.oneCell'=true:=by
 intro qs ps cells r vals hp
 induction hp generalizing cells vals with
 | nil =>
  intro h hc h1
  simp only[aax,ab] at h
  subst h
  exact⟨vals,rfl,hc,h1⟩
 | @cons i xs v qs ps hx hx1 hr ih =>
  intro h hc h1
  simp only[aax] at h
  split at h
  .cases h
  .rename_i off size hpl
   split at h
   .rename_i hsz
    have hlx:v.cells.size=xs.length:=by have:=hx.length;simpa using this
    have hlc:vals.size=cells.length:=by have:=hc.length;simpa using this
    simp only[Instr.fill,hpl]
    have hcond:(decide (v.cells.size≠size)||decide (off+v.cells.size>vals.size))=false:=by
     simp
     omega
    have hset:=aNT v.cells.toList vals off (by simp;omega)
    simp only[cM] at hset
    have hne:¬ (v.cells.size≠size\/off+v.cells.size>vals.size):=by omega
    have hlv:v.cells.toList.length=size:=by simp;omega
    obtain⟨o,ho,h2,h3⟩:=ih (vals:=v.cells.zipIdx.foldl (λcs (c,j)=>cs.setIfInBounds (off+j) c) vals) h
     (by
      rw[hset,hlv]
      have e:(off+size)=off+size:=rfl
      exact ((hc.takeN off).append hx).append (hc.dropN (off+size)))
     (by
      rw[hset]
      intro u hu
      simp only[bt] at hu
      rcases hu with (hu|hu)|hu
      .exact h1 u (acg hu)
      .exact hx1 u hu
      .exact h1 u (dP hu))
    refine⟨o,?_,h2,h3⟩
    rw[← ho]
    simp[hne]
   .cases h
theorem ahD(l:List Value):aR k ow (l.map abv) l:=by
 induction l with
 | nil=>simp[aR]
 | cons v r ih=>simp only[aU,aR];exact⟨v,r,rfl,auT k ow v,ih⟩
theorem aBk{t:Nat}{d:TD}{qs:List (Nat×List X)}{ps:Array (Nat×Value)}{fs:Array Field}{xs:List X}(hT:TT.of P t=some d)(hd:d.und=.struct fs)
  (hp:RepParts k ow qs ps.toList) (h:aax (λi=>d.fields[i]?) (fw d) qs=some xs):∃ u,(Instr.build t ps).run P w=.ok u w/\aF k ow (.agg xs) u:=by
 have ok:=TT.of_ok hT
 obtain⟨z,hz,hz2⟩:=ok.run_zero w
 have hru:=ok.run_und w
 rw[hd] at hru
 have hfl:=ok.fields
 rw[hd] at hfl
 obtain⟨o,ho,h2,h3⟩:=anF (k:=k) (ow:=ow) (λi=>d.fields[i]?) (vals:=z.cells) hp h (by rw[hz2];exact ahD _) (by rw[hz2];exact ok.one)
 refine⟨.agg o,?_,by simp only[aF];exact⟨o.toList,rfl,h3,h2⟩⟩
 have hpl:(λx:Nat=>d.fields.toArray[x]?)=λi=>d.fields[i]?:=by funext i;simp
 simp only[fieldsOf] at hfl
 simp[Instr.build,hz,hru,Array.mapM_eq_mapM_toList,run_places w _ _ hfl,ho]
theorem apR{t e n:Nat}{d de:TD}{qs:List (Nat×List X)}{ps:Array (Nat×Value)}{xs:List X}(hT:TT.of P t=some d)(hd:d.und=.array n e)(hE:TT.of P e=some de)
  (hp:RepParts k ow qs ps.toList) (h:aax (λi=>some (i*de.size,de.size)) (fw d) qs=some xs):∃ u,(Instr.build t ps).run P w=.ok u w/\aF k ow (.agg xs) u:=by
 have ok:=TT.of_ok hT
 obtain⟨z,hz,hz2⟩:=ok.run_zero w
 have hru:=ok.run_und w
 rw[hd] at hru
 obtain⟨o,ho,h2,h3⟩:=anF (k:=k) (ow:=ow) (λi=>some (i*de.size,de.size)) (vals:=z.cells) hp h (by rw[hz2];exact ahD _) (by rw[hz2];exact ok.one)
 refine⟨.agg o,?_,by simp only[aF];exact⟨o.toList,rfl,h3,h2⟩⟩
 simp[Instr.build,hz,hru,(TT.of_ok hE).run_size,ho]
theorem apW(zs:List Value)(d:Value):∀ n,(List.range (n*zs.length)).map (λi=>zs.getD (i % zs.length) d)=(List.replicate n zs).flatten
 | 0=>by simp
 | n+1=>by
  have ih:=apW zs d n
  have hz:(List.range zs.length).map (λi=>zs.getD (i % zs.length) d)=zs:=by
   apply List.ext_getElem aT
   intro i h1 h2
   simp at h1
   simp[Nat.mod_eq_of_lt h1,h1]
  have hs:(n+1)*zs.length=zs.length+n*zs.length:=by rw[aea,acf,eJ]
  rw[hs,List.range_add,cm,hz,adO,List.replicate_succ,ahP,← ih]
  congr 1
  apply dS
  intro i _
  simp
theorem Sim.row(h:Sim M0 k ow done w0 w N s tmps){row:Option Nat}{w':World}{v':Value}{e z n':Nat}{us:List Value}{cs:List C}{c ix i:Nat}
  (hrow:∀ g,row=some g->agZ M0.mod w0 g/\(∀ r,k.μ r=some g->fQ s.objs 0 r)/\(∀ t v e z n,ow t=some (v,e,z,n)->v.ownBlock≠some g)/\∀ o u,k.m g o=some u->us[o]?=some u)
  (hg:w.grownBy w' row) (hown:w'.ownsRow 0 e z v' n' us) (hv:v'.ownBlock=row\/(v'.ownBlock=some w.heap.size/\row=none))
  (hcs:bv k.m cs us) (h1:∀ u∈us,u.oneCell'=true) (ht:ow (.nm c ix i)=none) (hf:c<s.clk\/(c=s.clk/\done ix)) :
  ∃ k',k.le k'/\Sim M0 k' (ow.add (.nm c ix i) (v',e,z,n')) done w0 w' N s tmps/\aF k' (ow.add (.nm c ix i) (v',e,z,n')) (.own (.nm c ix i) e z cs n') v':=by
 have hmlt:∀ b o u,k.m b o=some u->b<w.heap.size:=λb o u hm=>ag3 h.mem hm
 let k':Know:={m:=λb o=>if some b=v'.ownBlock then us[o]? else k.m b o,μ:=k.μ}
 have hm':∀ b o,k'.m b o=if some b=v'.ownBlock then us[o]? else k.m b o:=λ_ _=>rfl
 have hle:k.le k':=by
  refine⟨λb o u hm=>?_,λ_ _ h=>h⟩
  rw[hm']
  split
  .rename_i hb
   rcases hv with hv|⟨hv,_⟩
   .exact (hrow b (by rw[← hv,← hb])).2.2.2 o u hm
   .rw[hv] at hb
    have:=hmlt b o u hm
    simp only[ab] at hb
    omega
  .exact hm
 have hbw:Keeps M0.mod w0 w':=⟨hg.os.trans h.below.os,hg.tape.trans h.below.tape,hg.output.trans h.below.output,fJ h.below.size hg.size,
  λb hb hm=>(hg.block b (cG hb h.below.size) (λe=>by rcases (hrow b e.symm).1 with h1|h1;omega;exact hm h1)).trans (h.below.block b hb hm)⟩
 have hblk:∀ b,b<w.heap.size->some b≠row->w'.heap[b]?=w.heap[b]?:=hg.block
 have hmem:∀ b o u,k'.m b o=some u->w'.cell? ⟨b,o,none⟩=some u/\u.oneCell'=true:=by
  intro b o u hm
  rw[hm'] at hm
  split at hm
  .rename_i hb
   refine⟨?_,h1 u (bT hm)⟩
   have:=hown.cells (g:=b) hb.symm o u hm
   rwa [Addr.add_lit,cf] at this
  .rename_i hb
   obtain⟨g1,g2⟩:=h.mem b o u hm
   have hlt:=hmlt b o u hm
   have hne:some b≠row:=by
    rcases hv with hv|⟨_,hv⟩
    .rw[← hv];exact hb
    .rw[hv];simp
   exact⟨(World.cell?_of_block (a:=⟨b,o,none⟩) (hblk b hlt hne)).trans g1,g2⟩
 have hnew:∀ g,v'.ownBlock=some g->agZ M0.mod w0 g/\(∀ r,k.μ r=some g->fQ s.objs 0 r)/\(∀ t v e z n,ow t=some (v,e,z,n)->v.ownBlock≠some g):=by
  intro g hgo
  rcases hv with hv|⟨hv,_⟩
  .obtain⟨a,b,c,_⟩:=hrow g (by rw[← hv,hgo]);exact⟨a,b,c⟩
  .have e1:g=w.heap.size:=ay (hgo.symm.trans hv)
   subst e1
   refine⟨.inl h.below.size,λr hr=>?_,λt v e z n ho hb=>?_⟩
   .have:=(h.lt hr).2.1
    exact absurd this aC
   .have:=(h.tlt ho hb).2
    omega
 have hSim:Sim M0 k' ow done w0 w' N s tmps:={
  good:=h.good
  size:=h.size
  cells:=h.cells
  below:=hbw
  fr:=λj=>aF.mono hle (λ_ _ h=>h) _ _ (h.fr j)
  mem:=hmem
  obj:=λr ob hr=>by
   obtain⟨b,g1,g2,g3,g4,g5⟩:=h.obj r ob hr
   refine⟨b,g1,g2,cG g3 hg.size,λhl o=>?_,?_⟩
   .have hnb:some b≠v'.ownBlock:=λe=>ah8 ((hnew b e.symm).2.1 r g1) ⟨ob,hr,hl⟩
    rw[hm',aj hnb];exact g4 hl o
   .by_cases e:some b=row
    .obtain⟨ty,cs,q1,q2⟩:=(hrow b e.symm).2.1 r g1
     obtain rfl:=ay (q1.symm.trans hr)
     exact .inl (bK aC)
    .exact (g5.keep (hblk b g3 e)).mono hle (λ_ _ h=>h)
  dom:=h.dom
  inj:=h.inj
  tok:=λt v e z n ht=>by
   obtain⟨⟨xs,g1⟩,g2⟩:=h.tok t v e z n ht
   refine⟨⟨xs,acX (λg hgo hlt=>hblk g hlt (λe=>(hrow g e.symm).2.2.1 t v _ _ _ ht hgo)) g1⟩,λg hgo=>⟨(g2 g hgo).1,λo ho=>?_,(g2 g hgo).2.2⟩⟩
   rw[hm',aj (λe=>(hnew g e.symm).2.2 t v _ _ _ ht hgo)]
   exact (g2 g hgo).2.1 o ho
  tokne:=h.tokne
  fresh:=h.fresh
  m0:=λb o u hm hb hmd=>by
   rw[hm',aj (λe=>by rcases (hnew b e.symm).1 with h1|h1;omega;exact hmd h1)] at hm
   exact h.m0 b o u hm hb hmd}
 refine⟨k',hle,hSim.add ht hown (λg hgo=>⟨(hnew g hgo).1,λo ho=>?_,(hnew g hgo).2.1⟩) (λt' v2 e2 z2 n2 h2 g hgo=>(hnew g hgo).2.2 t' v2 e2 z2 n2 h2) hf,?_⟩
 .rw[hm',am hgo.symm]
  rw[aZ]
  rw[hown.1]
  exact ho
 .have hlen:=hcs.length
  have hk2:=bv.mono hle.1 _ _ hcs
  simp only[aF,Rep]
  refine⟨by simp[Own.add],by rw[← hlen,hown.1],?_⟩
  rcases hown.2 with ⟨rfl,rfl⟩|⟨g,cap,cur,rfl,_,_,hcap,_,_,_⟩
  .have:us=[]:=bK (by rw[hown.1];simp)
   subst this
   exact⟨none,0,[],rfl,ae _,hk2,λh=>absurd rfl h⟩
  .refine⟨some ⟨g,0,none⟩,cap,us,rfl,hcap,hk2,λ_=>⟨g,0,rfl,λi u hu=>?_⟩⟩
   rw[hm']
   simp only[Value.ownBlock,au,cf]
   exact hu
end
def anb(us:List Value):Value:=match us with
 | [u]=>u
 | us=>.tuple us.toArray
def ahb(pan:Bool)(us:List Value)(e:Ending):Prop:=match pan with
 | false=>e=.returned (anb us)
 | true=>∃ u,us=[u]/\e=.panicked [{v:=u,recovered:=false}]
def abM(k:Know)(ow:Own)(b:Nat):Prop:=(∃ r,k.μ r=some b)\/∃ t v e z n,ow t=some (v,e,z,n)/\v.ownBlock=some b
def aa2(P:Program)(G:GP)(f:Nat)(xs:List X)(obs:List Ob)(an:An):Prop :=
 ∀ fn,P.funcs[f]?=some fn->∀ (k:Know) (ow:Own) (w:World) (vs:List Value),Hp ⟨G,k.m,abM k ow⟩ k ow w w obs ->
  (∀ t p,ow t=some p->t.older 1 λ_=>False)->(∀ r off p,ow (.cell r off)=some p->r<obs.length)->aR k ow xs vs ->
  Calls P f vs.toArray w λe w'=>∃ k' ow' us,ahb an.pan us e/\Hp ⟨G,k.m,abM k ow⟩ k' ow' w w' an.obs/\k.m.le k'.m/\obs.length<=an.obs.length/\(∀ r,r<obs.length->k'.μ r=k.μ r) /\
   (∀ t p,ow' t=some p->t.older 1 λ_=>False)/\(∀ r off p,ow' (.cell r off)=some p->r<an.obs.length)/\aR k' ow' an.rs us
section
variable {P:Program} {M0:Base} {k:Know} {ow:Own} {done:Nat->Prop} {w0 w:World} {N:Nat} {s:S} {tmps:Array Value}
theorem aq5(hs:Sim M0 k ow done w0 w N s tmps){t e n:Nat}{d:TD}{qs:List (Nat×List X)}{ps:Array (Nat×Value)}{xs:List X}{cs:List C}{c ix i:Nat}
  (he:elemOf (TT.of P) t=some (e,d)) (hn:n*d.size<=16777216) (hz:0<d.size) (hp:RepParts k ow qs ps.toList)
  (h:aax (λi=>some (i*d.size,d.size)) ((List.replicate n (fw d)).flatten) qs=some xs) (hcs:X.rds xs=some cs) (ht:ow (.nm c ix i)=none) (hf:c<s.clk\/(c=s.clk/\done ix)) :
  ∃ u w' k' ow',(Instr.buildSlice t n ps).run P w=.ok u w'/\k.le k'/\Sim M0 k' ow' done w0 w' N s tmps/\aF k' ow' (.own (.nm c ix i) e d.size cs n) u:=by
 obtain⟨hund,hd⟩:=ais he
 have ok:=TT.of_ok hd
 have hru:=ajp (w:=w) hund
 obtain⟨z,hzr,hz2⟩:=ok.run_zero w
 have hzl:z.cells.toList.length=d.size:=by rw[hz2];exact ok.len
 let zs:Array Value:=if n*d.size=0 then #[] else z.cells
 let vals:Array Value:=(Array.range (n*d.size)).map λi=>zs[i % zs.size]!
 have hvals:vals.toList=(List.replicate n d.zero).flatten:=by
  by_cases h0:n*d.size=0
  .have hn0:n=0:=by rcases aan n with g|g;exact g;have:=ail g hz;omega
   subst hn0
   simp[vals]
  .have hzs:zs=z.cells:=by simp only[zs,aj h0]
   have hr:=apW d.zero default n
   have hsz:zs.size=d.size:=by rw[hzs];simpa using hzl
   rw[← hr,ok.len]
   simp only[vals,adw,Array.toList_range]
   apply dS
   intro i _
   rw[hsz]
   have hlt:i % d.size<d.size:=aiW _ hz
   have h1:i % d.size<zs.size:=by rw[hsz];exact hlt
   rw[getElem!_pos zs _ h1]
   have:zs.toList=d.zero:=by rw[hzs];exact hz2
   rw[aY,← this]
   simp[h1]
 have hz1:∀ u∈vals.toList,u.oneCell'=true:=by
  rw[hvals]
  intro u hu
  obtain⟨l,hl,hul⟩:=List.mem_flatten.1 hu
  rw[List.mem_replicate] at hl
  exact ok.one u (hl.2▸hul)
 have hzx:aR k ow ((List.replicate n (fw d)).flatten) vals.toList:=by
  rw[hvals]
  clear hvals hz1 h hn
  induction n with
  | zero=>simp[aR]
  | succ n ih =>
   simp only[List.replicate_succ,ahP]
   exact (ahD _).append ih
 obtain⟨o,ho,h2,h3⟩:=anF (k:=k) (ow:=ow) _ hp h hzx hz1
 have hcl:=akH _ _ _ hcs h2
 have hol:o.size=n*d.size:=by
  have e1:=h2.length
  have e2:∀ (qs:List (Nat×List X)) (cells r:List X),aax (λi=>some (i*d.size,d.size)) cells qs=some r->r.length=cells.length:=by
   intro qs
   induction qs with
   | nil=>intro cells r hr;simp only[aax,ab] at hr;rw[hr]
   | cons q qs ih =>
    intro cells r hr
    obtain⟨i,xs⟩:=q
    simp only[aax] at hr
    split at hr
    .rename_i hc
     rw[ih _ _ hr]
     simp
     omega
    .cases hr
  have e3:=e2 _ _ _ h
  have e4:((List.replicate n (fw d)).flatten).length=n*d.size:=by
   simp[List.length_flatten,fw,ok.len]
  simp only[eE] at e1
  omega
 have hrow:(w.alloc (.cells o e)).ownsRow 0 e d.size (.slice (some ⟨w.heap.size,0,none⟩) n n) n o.toList :=
  ⟨by simpa using hol,.inr ⟨w.heap.size,n,o,rfl,aO _,heap_alloc_new w _,ae _,by
   have:n<=n*d.size:=Nat.le_mul_of_pos_right n hz
   simp only[maxLen];omega,hol,by rw[aaW (by simp;omega)]⟩⟩
 obtain⟨k',g1,g2,g3⟩:=hs.row (row:=none) (w':=w.alloc (.cells o e)) (c:=c) (ix:=ix) (i:=i) (λg hg=>by cases hg) (World.grownBy_alloc w _ none) hrow (.inr ⟨rfl,rfl⟩) hcl h3 ht hf
 refine⟨_,_,k',_,?_,g1,g2,g3⟩
 have hvdef:(Array.map (λx=>(if n*d.size=0 then #[] else z.cells)[x % (if n*d.size=0 then (#[]:Array Value) else z.cells).size]!) (Array.range (n*d.size)))=vals:=rfl
 by_cases h0:n*d.size=0
 .simp only[Instr.buildSlice,Sem.run_bind,hru,Result.andThen_ok,ok.run_size,h0,aj (show ¬ (0:Nat)>2 ^ 24 by omega),Sem.run_pure,au]
  have hv0:vals=Array.map (λx=>(#[]:Array Value)[x % (#[]:Array Value).size]!) (Array.range 0):=by simp only[vals,zs,h0,au]
  rw[hv0] at ho
  rw[ho]
  rfl
 .simp only[Instr.buildSlice,Sem.run_bind,hru,Result.andThen_ok,ok.run_size,aj (show ¬ n*d.size>2 ^ 24 by omega),Sem.run_pure,h0,av,hzr]
  have hv0:vals=Array.map (λx=>z.cells[x % z.cells.size]!) (Array.range (n*d.size)):=by simp only[vals,zs,h0,av]
  rw[hv0] at ho
  rw[ho]
  rfl
theorem ajP{t ty e:Nat}{d:TD}(hund:P.underlying t=some (.slice e))(hd:TT.of P e=some d)(hz:0<d.size){B:Nat}{v:Value}{n:Nat}{xs:List Value}(hown:w.ownsRow B e d.size v n xs)
  {A:Option Addr} {m c:Nat} {news:List Value} (hl:news.length=m*d.size) (hA:news≠[]->∃ b o,A=some ⟨b,o,none⟩/\∀ i u,news[i]?=some u->w.cell? ⟨b,o+i,none⟩=some u)
  (h1:∀ u∈news,u.oneCell'=true) (hLIM:n+m<=LIM) (hby:d.bytes<=32768) (hbase:B<=w.heap.size) :
  ∃ v' w',(Builtin.append_ #[t,t] ty #[v,.slice A m c]).run P w=.ok v' w'/\w'.ownsRow B e d.size v' (n+m) (xs++news) /\
   ((w.grownBy w' v.ownBlock/\v'.ownBlock=v.ownBlock)\/(w.grownBy w' none/\v'.ownBlock=some w.heap.size)):=by
 obtain⟨i,hi,hsz,hbi,z,hzz,hzl,_⟩:=(TT.of_ok hd).info
 have hzsz:z.cells.size=i.size:=by
  have:=(TT.of_ok hd).len
  rw[← hzl] at this
  rw[hsz]
  simpa using this
 unfold LIM at hLIM
 have hbytes:(n+m)*i.bytes<=140737488355328:=by
  rw[hbi]
  have:(n+m)*d.bytes<=4294967296*32768:=Nat.mul_le_mul hLIM hby
  omega
 have h63:n+m<=maxLen:=by simp only[maxLen];omega
 have hlen:(xs++news).length=(n+m)*d.size:=by rw[bc,hown.1,hl,aea]
 by_cases hm:m=0
 .subst hm
  have hn:news=[]:=bK (by simpa using hl)
  subst hn
  refine⟨v,w,?_,by simpa using hown,.inl ⟨⟨rfl,rfl,rfl,ae _,λ_ _ _=>rfl⟩,rfl⟩⟩
  have hf:(Builtin.firstCells d.size 0 (.slice A 0 c)).run P w=.ok #[] w:=by
   cases A <;> simp[Builtin.firstCells,loadCells,loadCellsFrom]
  rcases hown.2 with ⟨rfl,rfl⟩|⟨g,cap,cur,rfl,_,_,hcap,_⟩
  .simp[Builtin.append_,run_underlying hund,(TT.of_ok hd).run_size,Builtin.lenOf,hf]
  .simp[Builtin.append_,run_underlying hund,(TT.of_ok hd).run_size,Builtin.lenOf,hf,hcap,storeCells]
 .have hne:news≠[]:=by
   intro e0
   rw[e0] at hl
   have:0<m*d.size:=ail aC hz
   simp at hl
   omega
  obtain⟨b,o,rfl,hcells⟩:=hA hne
  have hnews:∀ j u,news[j]?=some u->w.cell? ((⟨b,o,none⟩ : Addr).add j)=some u:=λj u hu=>by rw[Addr.add_lit];exact hcells j u hu
  have grown:∀ (old:Nat),old<n+m ->
    (w.drew.alloc (.cells (xs.toArray++news.toArray++Builtin.zeroCells z.cells (grownCap w (n+m) old e-(n+m))) e)).ownsRow B e d.size
     (.slice (some ⟨w.heap.size,0,none⟩) (n+m) (grownCap w (n+m) old e)) (n+m) (xs++news) /\
    w.grownBy (w.drew.alloc (.cells (xs.toArray++news.toArray++Builtin.zeroCells z.cells (grownCap w (n+m) old e-(n+m))) e)) none:=by
   intro old ho
   have hge:=grownCap_ge w (n+m) old e
   have hcm:grownCap w (n+m) old e<=maxLen:=grownCap_le_maxLen w (n+m) old e h63
   refine⟨⟨hlen,.inr ⟨w.heap.size,_,_,rfl,hbase,heap_alloc_new w.drew _,hge,hcm,?_,?_⟩⟩,⟨rfl,rfl,rfl,by simp,λk hk _=>Go.RowKit.Below.heap_alloc w.drew _ k hk⟩⟩
   .simp only[Array.size_append,dG,size_zeroCells,hzsz,hsz,hown.1,hl,← aea]
    congr 1
    omega
   .simp only[aaQ,fj]
    rw[← fj,← hlen]
    exact acY
  rcases hown.2 with ⟨rfl,rfl⟩|⟨g,cap,cur,rfl,hbg,hg,hnc,hcm,hcs,htake⟩
  .have hx:xs=[]:=bK (by simpa using hown.1)
   subst hx
   have hr:=run_append_nil (P:=P) w t ty e i z hund hi hzz ⟨b,o,none⟩ m c news (by rw[hsz];exact hl) hnews aC aC (by have hb:=hbytes;simp only[cf] at hb;omega)
   have hgr:=grown 0 aC
   simp only[cf,cj,aa5] at hgr ⊢
   exact⟨_,_,hr,hgr.1,.inr ⟨hgr.2,rfl⟩⟩
  .by_cases hroom:n+m<=cap
   .have hfit:n*i.size+news.length<=cur.size:=by rw[hl,hcs,hsz,← aea];exact Nat.mul_le_mul_right _ hroom
    have hr:=run_append_room (P:=P) w t ty e i hund hi g n cap cur hg ⟨b,o,none⟩ m c news (by rw[hsz];exact hl) hnews h1 hroom hfit
    refine⟨_,_,hr,⟨hlen,.inr ⟨g,cap,_,rfl,hbg,setRow_heap w g cur _ e _ hg,hroom,hcm,?_,?_⟩⟩,.inl ⟨⟨rfl,rfl,rfl,by simp,λk hk hkg=>setRow_other w g k _ (λe=>hkg (by simp[Value.ownBlock,e]))⟩,rfl⟩⟩
    .rw[hsz] at hfit
     simp only[dG,bc,aag,ch,eE,hsz]
     omega
    .rw[hsz,htake,← hlen]
     exact acY
   .have holds:∀ j u,xs[j]?=some u->w.cell? ((⟨g,0,none⟩ : Addr).add j)=some u:=hown.cells (g:=g) rfl
    have hr:=run_append_grow (P:=P) w t ty e i z hund hi hzz ⟨g,0,none⟩ n cap xs (by rw[hsz];exact hown.1) holds ⟨b,o,none⟩ m c news (by rw[hsz];exact hl) hnews aC aC (growslice_fits aC hbytes)
    have hgr:=grown cap aC
    exact⟨_,_,hr,hgr.1,.inr ⟨hgr.2,rfl⟩⟩
theorem apQ{t u ty e:Nat}{d:TD}(hund:P.underlying t=some (.slice e))(hu:P.underlying u=some .string)(hd:TT.of P e=some d)(hz:d.size=1){B:Nat}{v:Value}{n:Nat}{xs:List Value}(hown:w.ownsRow B e d.size v n xs)
  (s:ByteArray) (hLIM:n+s.size<=LIM) (hby:d.bytes<=32768) (hbase:B<=w.heap.size) :
  ∃ v' w',(Builtin.append_ #[t,u] ty #[v,.string s]).run P w=.ok v' w'/\w'.ownsRow B e d.size v' (n+s.size) (xs++Lib.strCells s) /\
   ((w.grownBy w' v.ownBlock/\v'.ownBlock=v.ownBlock)\/(w.grownBy w' none/\v'.ownBlock=some w.heap.size)):=by
 obtain⟨i,hi,hsz,hbi,z,hzz,hzl,_⟩:=(TT.of_ok hd).info
 have hi1:i.size=1:=hsz.trans hz
 have hzsz:z.cells.size=i.size:=by
  have:=(TT.of_ok hd).len
  rw[← hzl] at this
  rw[hsz]
  simpa using this
 unfold LIM at hLIM
 have hbytes:(n+s.size)*i.bytes<=140737488355328:=by
  rw[hbi]
  have:(n+s.size)*d.bytes<=4294967296*32768:=Nat.mul_le_mul hLIM hby
  omega
 have hxl:xs.length=n:=by have:=hown.1;rw[hz] at this;simpa using this
 have h63:n+s.size<=maxLen:=by simp only[maxLen];omega
 have hlen:(xs++Lib.strCells s).length=(n+s.size)*d.size:=by rw[bc,hxl,Lib.strCells_length,hz,ad9]
 by_cases hm:s.size=0
 .have hn:Lib.strCells s=[]:=bK (by rw[Lib.strCells_length];exact hm)
  rw[hn,hm]
  refine⟨v,w,?_,by simpa using hown,.inl ⟨⟨rfl,rfl,rfl,ae _,λ_ _ _=>rfl⟩,rfl⟩⟩
  have hf:(Builtin.firstCells 1 0 (.string s)).run P w=.ok #[] w:=by
   have:=Lib.run_firstCells_string (P:=P) w 1 s
   rw[hm,hn] at this
   exact this
  rcases hown.2 with ⟨rfl,rfl⟩|⟨g,cap,cur,rfl,_,_,hcap,_⟩
  .simp[Builtin.append_,run_underlying hund,run_underlying hu,sizeOf,typeInfo,hi,hi1,Builtin.lenOf,hm,hf]
  .simp[Builtin.append_,run_underlying hund,run_underlying hu,sizeOf,typeInfo,hi,hi1,Builtin.lenOf,hm,hf,hcap,storeCells]
 .have grown:∀ (old:Nat),old<n+s.size ->
    (w.drew.alloc (.cells (xs.toArray++(Lib.strCells s).toArray++Builtin.zeroCells z.cells (grownCap w (n+s.size) old e-(n+s.size))) e)).ownsRow B e d.size
     (.slice (some ⟨w.heap.size,0,none⟩) (n+s.size) (grownCap w (n+s.size) old e)) (n+s.size) (xs++Lib.strCells s) /\
    w.grownBy (w.drew.alloc (.cells (xs.toArray++(Lib.strCells s).toArray++Builtin.zeroCells z.cells (grownCap w (n+s.size) old e-(n+s.size))) e)) none:=by
   intro old ho
   have hge:=grownCap_ge w (n+s.size) old e
   have hcm:grownCap w (n+s.size) old e<=maxLen:=grownCap_le_maxLen w (n+s.size) old e h63
   refine⟨⟨hlen,.inr ⟨w.heap.size,_,_,rfl,hbase,heap_alloc_new w.drew _,hge,hcm,?_,?_⟩⟩,⟨rfl,rfl,rfl,by simp,λk hk _=>Go.RowKit.Below.heap_alloc w.drew _ k hk⟩⟩
   .simp only[Array.size_append,dG,size_zeroCells,hzsz,hi1,hz,hxl,Lib.strCells_length,ad9]
    omega
   .simp only[aaQ,fj]
    rw[← fj,← hlen]
    exact acY
  rcases hown.2 with ⟨rfl,rfl⟩|⟨g,cap,cur,rfl,hbg,hg,hnc,hcm,hcs,htake⟩
  .have hx:xs=[]:=bK hxl
   subst hx
   have hr:=run_append_nil_string (P:=P) w t u ty e i z hund hu hi hzz s aC aC (by have hb:=hbytes;simp only[cf] at hb;omega)
   have hgr:=grown 0 aC
   have he:s.data.map (λb=>Value.int .u8 b.toNat)=(Lib.strCells s).toArray:=by
    apply agH
    simp[Lib.strCells]
   rw[he] at hr
   simp only[cf,cj,aa5] at hgr ⊢
   exact⟨_,_,hr,hgr.1,.inr ⟨hgr.2,rfl⟩⟩
  .by_cases hroom:n+s.size<=cap
   .have hfit:n+s.size<=cur.size:=by rw[hcs,hz,ad9];exact hroom
    have hr:=Lib.run_append_room_string (P:=P) w t u ty e i hund hu hi hi1 g n cap cur hg s hroom hfit
    refine⟨_,_,hr,⟨hlen,.inr ⟨g,cap,_,rfl,hbg,setRow_heap w g cur _ e _ hg,hroom,hcm,?_,?_⟩⟩,.inl ⟨⟨rfl,rfl,rfl,by simp,λk hk hkg=>setRow_other w g k _ (λe=>hkg (by simp[Value.ownBlock,e]))⟩,rfl⟩⟩
    .simp only[dG,bc,aag,ch,eE,Lib.strCells_length]
     omega
    .have ht:cur.toList.take n=xs:=by have:=htake;rw[hz,ad9] at this;exact this
     rw[ht,← hlen]
     exact acY
   .have holds:∀ j u,xs[j]?=some u->w.cell? ((⟨g,0,none⟩ : Addr).add j)=some u:=hown.cells (g:=g) rfl
    have hr:=Lib.run_append_grow_string (P:=P) w t u ty e i z hund hu hi hzz ⟨g,0,none⟩ n cap xs (by rw[hi1,ad9];exact hxl) holds s aC aC (growslice_fits aC hbytes)
    have hgr:=grown cap aC
    exact⟨_,_,hr,hgr.1,.inr ⟨hgr.2,rfl⟩⟩
theorem anQ{m:Mem}(s:ByteArray):bv m (aeP s) (Lib.strCells s):=by
 unfold aeP Lib.strCells
 induction s.data.toList with
 | nil=>simp[bv]
 | cons b l ih =>
  simp only[aU,bv,Rep]
  exact⟨_,_,rfl,⟨rfl,rfl⟩,ih⟩
theorem aHD(hs:Sim M0 k ow done w0 w N s tmps){st xt ty el:Nat}{y:X}{d:TD}{ys:List C}{m:Nat}{vy:Value}(hund:P.underlying st=some (.slice el))(hd:TT.of P el=some d)(hpos:0<d.size)(hsl:ajI (TT.of P) st xt el y=some (ys,m))(hlen:ys.length=m*d.size)(hy:aF k ow y vy) :
  ∃ vs,bv k.m ys vs/\(∀ u∈vs,u.oneCell'=true)/\∀ {B:Nat} {v:Value} {n:Nat} {xs:List Value},w.ownsRow B el d.size v n xs->n+m<=LIM->d.bytes<=32768->B<=w.heap.size ->
   ∃ v' w',(Builtin.append_ #[st,xt] ty #[v,vy]).run P w=.ok v' w'/\w'.ownsRow B el d.size v' (n+m) (xs++vs)/\((w.grownBy w' v.ownBlock/\v'.ownBlock=v.ownBlock)\/(w.grownBy w' none/\v'.ownBlock=some w.heap.size)):=by
 unfold ajI at hsl
 split at hsl
 .rename_i hst
  subst hst
  have hy2:=apO hsl hy
  simp only[Rep] at hy2
  obtain⟨A,cap,vs,rfl,hcap,hvl,hm⟩:=hy2
  have hA:vs≠[]->∃ b o,A=some ⟨b,o,none⟩/\∀ i u,vs[i]?=some u->w.cell? ⟨b,o+i,none⟩=some u:=λhne=>by
   obtain⟨b,o,ha,hc⟩:=hm hne
   exact⟨b,o,ha,λi u hu=>(hs.mem _ _ _ (hc i u hu)).1⟩
  have h1:∀ u∈vs,u.oneCell'=true:=λu hu=>by
   have hne:vs≠[]:=by rintro rfl;cases hu
   obtain⟨b,o,ha,hc⟩:=hm hne
   obtain⟨i,hi⟩:=List.mem_iff_getElem?.1 hu
   exact (hs.mem _ _ _ (hc i u hi)).2
  have hvlen:vs.length=m*d.size:=by rw[hvl.length];exact hlen
  exact⟨vs,hvl,h1,λhown hb1 hb2 hB=>ajP (P:=P) (w:=w) (ty:=ty) hund hd hpos hown hvlen hA h1 hb1 hb2 hB⟩
 .split at hsl
  .rename_i s'
   split at hsl
   .rename_i hc
    simp only[bF] at hsl
    obtain⟨rfl,rfl⟩:=hsl
    simp only[aF,Rep] at hy
    obtain⟨rfl,_⟩:=hy
    have hu:P.underlying xt=some .string:=by
     have:=axD hc.1
     cases hT:TT.of P xt with
     | none=>simp[hT] at this
     | some dd=>simp only[hT,aG,ab] at this;rw[← this];exact (TT.of_ok hT).und
    obtain⟨dd,hd1,_,hd2⟩:=u8D hc.2
    rw[hd] at hd1
    cases hd1
    exact⟨Lib.strCells s',anQ s',Lib.strCells_oneCell s',λhown hb1 hb2 hB=>apQ (P:=P) (w:=w) (ty:=ty) hund hu hd hd2 hown s' hb1 hb2 hB⟩
   .cases hsl
  .cases hsl
theorem azL(hs:Sim M0 k ow done w0 w N s tmps){st xt ty:Nat}{x y z:X}{v vy:Value}{c ix i:Nat}{e:Option Tk}(h:dV (TT.of P) (.nm c ix i) st xt x y=some (z,e))(hek:∀ t,e=some t->t.isRow=false)(hx:aF k ow x v)(hy:aF k ow y vy)
  (ht:ow (.nm c ix i)=none) (hf:c<s.clk\/(c=s.clk/\done ix)) :
  ∃ u w' k' ow',(Builtin.append_ #[st,xt] ty #[v,vy]).run P w=.ok u w'/\k.le k'/\Sim M0 k' ow' done w0 w' N (s.drop e) tmps/\aF k' ow' z u:=by
 unfold dV at h
 split at h
 .rename_i el d he
  split at h
  .rename_i ys m hsl
   obtain⟨hund,hd⟩:=ais he
   have hund':P.underlying st=some (.slice el):=by
    cases hT:TT.of P st with
    | none=>simp[hT] at hund
    | some dd=>simp only[hT,aG,ab] at hund;rw[← hund];exact (TT.of_ok hT).und
   split at h
   .rename_i hc
    obtain⟨hlen,hpos⟩:=hc
    obtain⟨vs,hvl,h1,hrun⟩:=aHD (ty:=ty) hs hund' hd hpos hsl hlen hy
    split at h
    .-- nil
     split at h
     .rename_i hb
      simp only[bF] at h
      obtain⟨rfl,rfl⟩:=h
      simp only[aF] at hx
      subst hx
      obtain⟨v',w',hr,hown,hcase⟩:=hrun (World.ownsRow_nil w 0 el d.size) (by simpa using hb.1) hb.2 (aO _)
      simp only[cf,cj] at hown
      have hcase':(v'.ownBlock=none\/v'.ownBlock=some w.heap.size)/\w.grownBy w' none:=by
       rcases hcase with ⟨g1,g2⟩|⟨g1,g2⟩
       .exact⟨.inl g2,g1⟩
       .exact⟨.inr g2,g1⟩
      obtain⟨k',g1,g2,g3⟩:=hs.row (row:=none) (w':=w') (v':=v') (c:=c) (ix:=ix) (i:=i) (λg hg=>by cases hg) hcase'.2 hown (hcase'.1.imp id (λh=>⟨h,rfl⟩)) hvl h1 ht hf
      exact⟨v',w',k',_,hr,g1,g2,g3⟩
     .cases h
    .rename_i t' e' z' cs n
     split at h
     .rename_i hb
      obtain⟨rfl,rfl,hb1,hb2⟩:=hb
      simp only[bF] at h
      obtain⟨rfl,rfl⟩:=h
      simp only[aF] at hx
      obtain⟨ho,hcl,hrep⟩:=hx
      obtain⟨⟨xs,hown⟩,htok⟩:=hs.tok _ _ _ _ _ ho
      have hxs:bv k.m cs xs:=by
       simp only[Rep] at hrep
       obtain⟨a,cp,us,rfl,_,hul,hum⟩:=hrep
       have:us=xs:=by
        have e1:us.length=xs.length:=by rw[hul.length,hown.1,hcl]
        apply ab1
        intro i
        by_cases hi:i<us.length
        .have hne:us≠[]:=by rintro rfl;simp at hi
         obtain⟨b,o,rfl,hc⟩:=hum hne
         rcases hown.2 with ⟨h0,_⟩|⟨g,cap2,cur,hv,_⟩
         .cases h0
         .simp only[Value.slice.injEq,ab,Addr.mk.injEq] at hv
          obtain⟨⟨rfl,rfl,_⟩,_,rfl⟩:=hv
          have hu:us[i]?=some us[i]:=by simp[hi]
          have hc1:=(hs.mem _ _ _ (hc i _ hu)).1
          have hx2:xs[i]?=some (xs[i]'(by omega)):=by simp[show i<xs.length by omega]
          have hc2:=hown.cells (g:=b) rfl i _ hx2
          rw[Addr.add_lit] at hc2
          rw[hc1] at hc2
          rw[hu,hx2]
          exact hc2
        .rw[aZ aC,aZ aC]
       rw[← this]
       exact hul
      have hx1:∀ u∈xs,u.oneCell'=true:=by
       intro u hu
       simp only[Rep] at hrep
       obtain⟨a,cp,us,rfl,_,hul,hum⟩:=hrep
       obtain⟨i,hi⟩:=List.mem_iff_getElem?.1 hu
       have hlt:i<xs.length:=by
        rcases aD i xs.length with g|g
        .exact g
        .rw[aZ g] at hi;cases hi
       have hne:us≠[]:=by
        rintro rfl
        have e1:=hul.length
        rw[hown.1,← hcl,← e1] at hlt
        simp at hlt
       obtain⟨b,o,rfl,hc⟩:=hum hne
       have hlu:i<us.length:=by rw[hul.length,hcl,← hown.1];exact hlt
       have hc1:=hs.mem _ _ _ (hc i _ (aM hlu))
       rcases hown.2 with ⟨h0,_⟩|⟨g,cap2,cur,hv,_⟩
       .cases h0
       .simp only[Value.slice.injEq,ab,Addr.mk.injEq] at hv
        obtain⟨⟨rfl,rfl,_⟩,_,rfl⟩:=hv
        have hc2:=hown.cells (g:=b) rfl i _ hi
        rw[Addr.add_lit,hc1.1] at hc2
        have:=ay hc2
        rw[← this]
        exact hc1.2
      obtain⟨v',w',hr,hown',hcase⟩:=hrun hown hb1 hb2 (aO _)
      have hsd:=hs.del t' (hek t' rfl)
      have hdead:∀ g,v.ownBlock=some g->∀ r,k.μ r=some g->fQ (s.drop (some t')).objs 0 r:=λg hg r hr=>by
       obtain⟨ty,rs,q1,q2⟩:=((htok g hg).2.2 r hr).1
       cases rs with
       | nil=>exact⟨ty,[],by simp[S.drop,bo,q1,Ob.drop],ae _⟩
       | cons a rs =>
        exfalso
        have hnone:=(hs.toHp.lt hr).2.2 ⟨_,q1,rfl⟩
        simp only[Rep] at hrep
        obtain⟨a',cp,us,rfl,_,hul,hum⟩:=hrep
        have hpos':0<us.length:=by rw[hul.length,hcl];simp only[aN] at q2;omega
        have hne:us≠[]:=by rintro rfl;simp at hpos'
        obtain⟨b,o,rfl,hc⟩:=hum hne
        have hc0:=hc 0 _ (aM hpos')
        simp only[Value.ownBlock,ab] at hg
        subst hg
        rw[hnone] at hc0
        cases hc0
      have hcells:∀ g o u,v.ownBlock=some g->k.m g o=some u->(xs++vs)[o]?=some u:=by
       intro g o u hg hm2
       have hlt:o<n*d.size:=by
        rcases aD o (n*d.size) with g1|g1
        .exact g1
        .rw[(htok g hg).2.1 o g1] at hm2;cases hm2
       have hlx:o<xs.length:=by rw[hown.1];exact hlt
       have hc1:=(hs.mem _ _ _ hm2).1
       have hx2:xs[o]?=some (xs[o]'hlx):=by simp[hlx]
       have hc2:=hown.cells hg o _ hx2
       rw[Addr.add_lit,cf,hc1] at hc2
       rw[ba hlx,hx2]
       exact hc2.symm
      have htk:(ow.del t') (.nm c ix i)=none:=by simp only[Own.del];split;rfl;exact ht
      have hone2:∀ u∈xs++vs,u.oneCell'=true:=λu hu=>by
       rcases bt.1 hu with hu|hu
       .exact hx1 u hu
       .exact h1 u hu
      have hne2:∀ g,v.ownBlock=some g->∀ t v2 e z n,(ow.del t') t=some (v2,e,z,n)->v2.ownBlock≠some g:=by
       intro g hg t v2 e2 z2 n2 h2
       simp only[Own.del] at h2
       split at h2
       .cases h2
       .rename_i hne
        exact hs.tokne t' t _ _ _ _ _ _ _ _ ho h2 (bn hne) g hg
      rcases hcase with ⟨g1,g2⟩|⟨g1,g2⟩
      .obtain⟨k',q1,q2,q3⟩:=hsd.row (row:=v.ownBlock) (w':=w') (v':=v') (c:=c) (ix:=ix) (i:=i) (λg hg=>⟨(htok g hg).1,hdead g hg,hne2 g hg,λo u hm2=>hcells g o u hg hm2⟩) g1 hown' (.inl g2) (hxs.append hvl) hone2 htk hf
       exact⟨v',w',k',_,hr,q1,q2,q3⟩
      .obtain⟨k',q1,q2,q3⟩:=hsd.row (row:=none) (w':=w') (v':=v') (c:=c) (ix:=ix) (i:=i) (λg hg=>by cases hg) g1 hown' (.inr ⟨g2,rfl⟩) (hxs.append hvl) hone2 htk hf
       exact⟨v',w',k',_,hr,q1,q2,q3⟩
     .cases h
    .cases h
   .cases h
  .cases h
 .cases h
end
theorem afg(kind:TypeDesc)(k:Value):∀ (ms:List MapEntry) (es:List (Value×C)) (i:Nat) (r:Option Nat),ms.map (·.key)=es.map (·.1)->aff kind k es i=some r ->
  (∀ j,r=some j->i<=j/\∃ e,ms[j-i]?=some e/\Instr.findNow kind k ms i=some (some (j,e.val)))/\(r=none->Instr.findNow kind k ms i=some none)
 | [],[],i,r,_,h=>by
  simp only[aff,ab] at h
  subst h
  exact⟨λj hj=>(by cases hj),λ_=>rfl⟩
 | [],_::_,i,r,hk,_=>by simp at hk
 | _::_,[],i,r,hk,_=>by simp at hk
 | m::ms,e::es,i,r,hk,h=>by
  simp only[aU,fO] at hk
  simp only[aff] at h
  simp only[Instr.findNow,hk.1]
  split at h
  .rename_i hsn
   simp only[ab] at h
   subst h
   rw[hsn]
   exact⟨λj hj=>by cases hj;exact⟨ae _,m,by simp,rfl⟩,λh=>(by cases h)⟩
  .rename_i hsn
   rw[hsn]
   obtain⟨g1,g2⟩:=afg kind k ms es (i+1) r hk.2 h
   refine⟨λj hj=>?_,g2⟩
   obtain⟨h1,e',h2,h3⟩:=g1 j hj
   refine⟨by omega,e',?_,h3⟩
   obtain⟨q,rfl⟩ : ∃ q,j=i+1+q:=⟨j-(i+1),by omega⟩
   have e1:i+1+q-i=q+1:=by omega
   have e2:i+1+q-(i+1)=q:=by omega
   rw[e1]
   rw[e2] at h2
   simpa using h2
  .cases h
section
variable {P:Program} {M0:Base} {k:Know} {ow:Own} {done:Nat->Prop} {w0 w:World} {N:Nat} {s:S} {tmps:Array Value}
theorem aoz{T:TT}{t et:Nat}{kind:TypeDesc}(h:ahf T t=some (kind,et)):∃ d kt d',T t=some d/\d.und=.map kt et/\T kt=some d'/\d'.und=kind/\apA kind=true:=by
 unfold ahf at h
 split at h
 .rename_i kt et' _ _ _ _ _ hT
  split at h
  .rename_i kind' hK
   split at h
   .rename_i hkk
    simp only[bF] at h
    obtain⟨rfl,rfl⟩:=h
    simp only[ar] at hK
    obtain⟨d',h1,h2⟩:=hK
    exact⟨_,kt,d',hT,rfl,h1,h2,hkk⟩
   .cases h
  .cases h
 .cases h
theorem aeC{kt:Nat}{kind:TypeDesc}(hu:(underlying kt).run P w=.ok kind w)(hk:apA kind=true)(b:Bool)(v:Value):(Instr.checkKey b 10000 kt v).run P w=.ok () w:=by
 have:∀ n,(Instr.checkKey b (n+1) kt v).run P w=.ok () w:=λn=>by
  unfold Instr.checkKey
  simp only[Sem.run_bind,hu,Result.andThen_ok]
  cases kind <;> simp[apA] at hk <;> rfl
 exact this 9999
theorem ag0{kt:Nat}{kind:TypeDesc}(hu:(underlying kt).run P w=.ok kind w){v:Value}{ms:List MapEntry}{r:Option (Nat×Value)}(h:Instr.findNow kind v ms 0=some r):(Instr.findKey kt v ms).run P w=.ok r w:=by
 simp only[Instr.findKey,Sem.run_bind,hu,Result.andThen_ok,h,Sem.run_pure]
theorem ahO{x:X}{u v:Value}(h:fN x=some u)(hx:aF k ow x v):v=u:=by
 unfold fN at h
 split at h
 .simp only[ab] at h
  subst h
  simp only[aF,Rep] at hx
  exact hx.1
 .cases h
theorem aG8{et:Nat}{z:X}(h:alb (TT.of P) et=some z)(w:World):∃ u,(zeroValue et).run P w=.ok u w/\aF k ow z u:=by
 unfold alb at h
 split at h
 .rename_i d hT
  have ok:=TT.of_ok hT
  obtain⟨u,h1,h2,h3⟩:=ok.run_zero2 w
  have hrep:aR k ow (fw d) d.zero:=ahD d.zero
  obtain⟨g1,g2,g3⟩:=aj7 hT h hrep ok.one
  refine⟨u,h1,?_⟩
  rw[ok.len.symm,afb] at g3
  cases hagg:d.agg with
  | true =>
   rw[hagg] at h3 g3
   cases u with
   | agg us =>
    simp only[au] at g3
    have:us=d.zero.toArray:=by rw[← h2];simp[Value.cells]
    rw[this]
    exact g3
   | _=>simp[aoF] at h3
  | false =>
   rw[hagg] at h3 g3
   have hu:u.cells=#[u]:=by cases u <;> simp_all [aoF,Value.cells]
   rw[hu] at h2
   rw[← h2] at g3
   simpa using g3
 .cases h
theorem aIO(hs:Sim M0 k ow done w0 w N s tmps){x:X}{es:List (Value×C)}{v:Value}(h:ahg s.objs x=some es)(hx:aF k ow x v) :
  ∃ ms:List MapEntry,ms.map (·.key)=es.map (·.1)/\bv k.m (es.map (·.2)) (ms.map (·.val)) /\
   ((v=.map none/\ms=[])\/∃ r cl,v=.map (some r)/\w.heap[r]?=some (.map ms.toArray cl)):=by
 unfold ahg at h
 split at h
 .rename_i r
  split at h
  .rename_i es' hr
   simp only[ab] at h
   subst h
   obtain⟨b,hb,_,_,_,ms,cl,hh,h1,h2⟩:=hs.obj r _ hr
   simp only[aF] at hx
   obtain⟨b',hb',rfl⟩:=hx
   obtain rfl:b'=b:=ay (hb'.symm.trans hb)
   exact⟨ms.toList,h1,h2,.inr ⟨b',cl,rfl,hh⟩⟩
  .cases h
 .simp only[ab] at h
  subst h
  simp only[aF,Rep] at hx
  exact⟨[],rfl,by simp[bv],.inl ⟨hx.1,rfl⟩⟩
 .cases h
theorem ayv(hs:Sim M0 k ow done w0 w N s tmps){t:Nat}{x kx y:X}{ok:Bool}{e:Option Tk}{v vk:Value}(h:aeH (TT.of P) s.objs t x kx ok=some (y,e))(hx:aF k ow x v)(hkx:aF k ow kx vk) :
  e=none/\∃ u,(Instr.lookup t v vk ok).run P w=.ok u w/\aF k ow y u:=by
 unfold aeH at h
 split at h
 .rename_i kind et kv es hty hlit hmap
  obtain⟨d,kt,d',hT,hu,hT',hu',hkk⟩:=aoz hty
  have r1:=(TT.of_ok hT).run_und w
  have r2:=(TT.of_ok hT').run_und w
  rw[hu] at r1
  rw[hu'] at r2
  obtain rfl:=ahO hlit hkx
  obtain⟨ms,hk1,hk2,hv⟩:=aIO hs hmap hx
  have pre:∀ r,Instr.findNow kind vk ms 0=some r->(Instr.lookup t v vk ok).run P w=(do
    let (v,ok') ← match r with
     | some (_,v)=>pure (v,true)
     | none=>do pure (← zeroValue et,false)
    pure (if ok then Value.tuple #[v,.bool ok'] else v):Sem Value).run P w:=by
   intro r hr
   have hf:=ag0 r2 hr
   rcases hv with ⟨rfl,rfl⟩|⟨b,cl,rfl,hh⟩
   .simp only[Instr.lookup,Sem.run_bind,r1,Result.andThen_ok,Sem.run_pure,aeC r2 hkk]
    rw[hf]
    rfl
   .simp only[Instr.lookup,Sem.run_bind,r1,Result.andThen_ok,Sem.run_pure,aeC r2 hkk,Go.MapKept.run_getObj_map hh]
    rw[hf]
    rfl
  split at h
  .rename_i i hfind
   obtain⟨g1,_⟩:=afg kind vk ms es 0 _ hk1 hfind
   obtain⟨_,e',he,hnow⟩:=g1 i rfl
   simp only[bJ,ar,aX] at h
   obtain⟨y',⟨p,hp,rfl⟩,rfl,rfl⟩:=h
   refine⟨rfl,?_⟩
   rw[pre _ hnow]
   simp only[ae9] at he
   obtain⟨u,hu1,hu2⟩:=hk2.get i p.2 (by simp[hp])
   simp only[bo,he,aG,ab] at hu1
   subst hu1
   cases ok with
   | true=>exact⟨_,rfl,by simp[aF,aR,Rep,Value.oneCell',hu2]⟩
   | false=>exact⟨_,rfl,by simpa [aF] using hu2⟩
  .rename_i hfind
   obtain⟨_,g2⟩:=afg kind vk ms es 0 _ hk1 hfind
   have hnow:=g2 rfl
   simp only[bJ,ar,aX] at h
   obtain⟨y',⟨z,hz,rfl⟩,rfl,rfl⟩:=h
   refine⟨rfl,?_⟩
   rw[pre _ hnow]
   obtain⟨u,hu1,hu2⟩:=aG8 (k:=k) (ow:=ow) hz w
   cases ok with
   | true=>exact⟨_,by simp[hu1];rfl,by simp[aF,aR,Rep,Value.oneCell',hu2]⟩
   | false=>exact⟨_,by simp[hu1];rfl,by simpa [aF] using hu2⟩
  .cases h
 .cases h
end

/- A part. Conditions: none. -/
import Derived.Shelf.Small.Strs
import Derived.Shelf.Strings.Search3
import Derived.Shelf.Strings.Prefix
import Derived.Shelf.Strings.FuncGrows
import Derived.Test.YtghkmcffifpkeaaGreatProg
import Derived.Maps.AppendAt
set_option linter.all false
set_option maxRecDepth 100000
set_option maxHeartbeats 64000000
theorem Go.hC{a b c:Prop}(xa:a)(xb:b)(xc:c):a/\b/\c:=⟨xa,xb,xc⟩
theorem Go.hH{a b c d:Prop}(xa:a)(xb:b)(xc:c)(xd:d):a/\b/\c/\d:=⟨xa,xb,xc,xd⟩
theorem Go.hJ{a b c d e:Prop}(xa:a)(xb:b)(xc:c)(xd:d)(xe:e):a/\b/\c/\d/\e:=⟨xa,xb,xc,xd,xe⟩
theorem Go.hM{a b c d e f:Prop}(xa:a)(xb:b)(xc:c)(xd:d)(xe:e)(xf:f):a/\b/\c/\d/\e/\f:=⟨xa,xb,xc,xd,xe,xf⟩
theorem Go.hU{a b c d e f g:Prop}(xa:a)(xb:b)(xc:c)(xd:d)(xe:e)(xf:f)(xg:g):a/\b/\c/\d/\e/\f/\g:=⟨xa,xb,xc,xd,xe,xf,xg⟩
theorem Go.hZ{a b c d e f g h:Prop}(xa:a)(xb:b)(xc:c)(xd:d)(xe:e)(xf:f)(xg:g)(xh:h):a/\b/\c/\d/\e/\f/\g/\h:=⟨xa,xb,xc,xd,xe,xf,xg,xh⟩
theorem Go.ib{a b c d e f g h i:Prop}(xa:a)(xb:b)(xc:c)(xd:d)(xe:e)(xf:f)(xg:g)(xh:h)(xi:i):a/\b/\c/\d/\e/\f/\g/\h/\i:=⟨xa,xb,xc,xd,xe,xf,xg,xh,xi⟩
theorem Go.aC{p:Prop}(h:p:=by omega):p:=h
theorem Go.aI{p:Prop}(h:p:=by decide):p:=h
theorem Go.aS{p:Prop}(h:p:=by kernel_rfl):p:=h
theorem Go.aT{p:Prop}(h:p:=by simp):p:=h
theorem Go.ai{a b:Prop}(x:a)(y:b):a/\b:=⟨x,y⟩
namespace Go
def abq:=@Array.any_eq_true'
def aaF:=@Array.empty_append
def af3:=@Array.ext'
def eU:=@Array.getD_eq_getD_getElem?
def aab:=@Array.getElem?_modify
def aaa:=@Array.getElem?_setIfInBounds_ne
def ac8:=@Array.getElem?_toList
def eL:=@Array.length_toList
def fB:=@Array.setIfInBounds_comm
def acm:=@Array.size_setIfInBounds
def cN:=@Array.toArray_toList
def aas:=@Array.toList_append
def ac7:=@Array.toList_map
def afD:=@Bool.and_assoc
def ac6:=@Bool.and_eq_false_iff
def ar:=@Bool.and_eq_true
def cy:=@Bool.and_false
def agj:=@Bool.and_self
def ff:=@Bool.and_true
def abF:=@Bool.eq_false_iff
def bP:=@Bool.eq_false_or_eq_true
def cC:=@Bool.eq_iff_iff
def cm:=@Bool.false_and
def ab:=@Bool.false_eq_true
def fC:=@Bool.false_or
def df:=@Bool.not_eq_true'
def ct:=@Bool.not_false
def bJ:=@Bool.not_true
def bD:=@Bool.or_eq_true
def aH:=@Bool.or_false
def agS:=@Bool.or_self
def aY:=@Bool.or_true
def bR:=@Bool.true_and
def acv:=@Bool.true_eq_false
def cf:=@Bool.true_or
def bk:=@Classical.propComplete
def bO:=@Iff.rfl
def abg:=@Int.eq_ofNat_of_zero_le
def ahx:=@Int.le_refl
def acu:=@Int.natCast_nonneg
def aeO:=@Int.ofNat_lt
def aaT:=@Int.toNat_natCast
def agi:=@List.all_cons
def bo:=@List.all_eq_true
def aax:=@List.all_nil
def aeb:=@List.all_takeWhile
def ai1:=@List.any_cons
def eO:=@List.append_assoc
def dy:=@List.append_eq
def aU:=@List.append_nil
def gp:=@List.cons.injEq
def eI:=@List.cons_append
def ac5:=@List.cons_ne_nil
def aea:=@List.contains_cons
def ad0:=@List.drop_drop
def bI:=@List.drop_eq_getElem_cons
def acS:=@List.drop_eq_nil_of_le
def bf:=@List.drop_length
def bv:=@List.drop_of_length_le
def aga:=@List.drop_succ_cons
def fX:=@List.drop_take
def abE:=@List.drop_zero
def cr:=@List.eq_nil_of_length_eq_zero
def abD:=@List.ext_getElem?
def ab9:=@List.extract_eq_take_drop
def ag4:=@List.flatten_cons
def adE:=@List.foldl_cons
def ba:=@List.getD_eq_getElem?_getD
def bq:=@List.getElem?_append_left
def fd:=@List.getElem?_append_right
def gA:=@List.getElem?_cons_succ
def dI:=@List.getElem?_cons_zero
def eX:=@List.getElem?_drop
def aO:=@List.getElem?_eq_getElem
def bc:=@List.getElem?_eq_none
def cd:=@List.getElem?_map
def fa:=@List.getElem?_set_ne
def dh:=@List.getElem?_set_self
def ac4:=@List.getElem?_toArray
def aaw:=@List.getElem_map
def bt:=@List.getElem_mem
def bp:=@List.length_append
def aX:=@List.length_cons
def cU:=@List.length_drop
def bM:=@List.length_map
def cq:=@List.length_nil
def ft:=@List.length_singleton
def abZ:=@List.length_take
def afC:=@List.mapM_cons
def aae:=@List.map_append
def fm:=@List.map_congr_left
def bd:=@List.map_cons
def ab5:=@List.map_drop
def agR:=@List.map_map
def cI:=@List.map_nil
def aek:=@List.map_take
def bS:=@List.mem_append
def adw:=@List.mem_append_left
def bQ:=@List.mem_cons
def dR:=@List.mem_cons_of_mem
def abp:=@List.mem_cons_self
def co:=@List.mem_of_getElem?
def eH:=@List.mem_of_mem_drop
def aa0:=@List.mem_of_mem_take
def dt:=@List.mem_singleton
def db:=@List.nil_append
def afh:=@List.nodup_cons
def abC:=@List.nodup_nil
def dH:=@List.not_mem_nil
def ags:=@List.set_cons_succ
def dZ:=@List.size_toArray
def dw:=@List.sum_cons
def fx:=@List.sum_nil
def dV:=@List.takeWhile_cons
def abo:=@List.takeWhile_nil
def acM:=@List.take_add_one
def ac3:=@List.take_append_drop
def acG:=@List.take_left
def aeN:=@List.take_length
def aaA:=@List.take_of_length_le
def acc:=@List.take_succ_cons
def aa9:=@List.toList_toArray
def cE:=@Nat.add_assoc
def fw:=@Nat.add_comm
def adZ:=@Nat.add_mul
def aap:=@Nat.add_sub_cancel_left
def gV:=@Nat.add_zero
def aaE:=@Nat.eq_zero_or_pos
def abn:=@Nat.exists_eq_succ_of_ne_zero
def aeM:=@Nat.le_add_right
def aaH:=@Nat.le_max_left
def aav:=@Nat.le_max_right
def cP:=@Nat.le_of_ble_eq_true
def aau:=@Nat.le_of_lt
def am:=@Nat.le_refl
def gU:=@Nat.le_trans
def bg:=@Nat.lt_irrefl
def cD:=@Nat.lt_of_lt_of_le
def av:=@Nat.lt_or_ge
def eN:=@Nat.lt_succ_of_lt
def aD:=@Nat.lt_succ_self
def acL:=@Nat.lt_trichotomy
def adY:=@Nat.mul_one
def ahw:=@Nat.mul_pos
def abk:=@Nat.not_lt_zero
def abY:=@Nat.one_mul
def agQ:=@Nat.sub_self
def aeL:=@Nat.sub_zero
def cB:=@Nat.zero_add
def bn:=@Nat.zero_le
def abz:=@Nat.zero_mul
def bC:=@Ne.symm
def bE:=@Option.bind_eq_some_iff
def dE:=@Option.bind_some
def aaU:=@Option.isNone_iff_eq_none
def acl:=@Option.isSome_iff_exists
def ay:=@Option.map_eq_some_iff
def adX:=@Option.map_map
def ahO:=@Option.map_none
def aP:=@Option.map_some
def aG:=@Option.some.inj
def ae:=@Option.some.injEq
def ad9:=@Option.toList_some
def bh:=@Prod.mk.injEq
def cY:=@and_false
def cz:=@and_self
def aaZ:=@and_true
def dL:=@beq_iff_eq
def adl:=@bne_iff_ne
def bK:=@decide_eq_false
def gz:=@decide_eq_false_iff_not
def cS:=@decide_eq_true
def aR:=@decide_eq_true_eq
def ef:=@decide_false
def eu:=@decide_true
def aiw:=@dif_pos
def aj:=@eq_false
def aa:=@eq_true
def fY:=@false_and
def ahu:=@false_or
def ap:=@if_false
def aA:=@if_neg
def aE:=@if_pos
def ah:=@if_true
def ae2:=@iff_false
def dv:=@ne_eq
def aak:=@not_false_eq_true
def ac2:=@not_or
def fP:=@not_true_eq_false
def abB:=@of_decide_eq_true
def aaj:=@or_false
def abm:=@or_self
def fF:=@or_true
def dg:=@true_and
def akZ:=@true_or
def abQ:=hC @bp.{0} @aX.{0} @cq.{0}
def aaW:=ai @eI.{0} @db.{0}
def fZ:=ai @aX.{0} @cq.{0}
def bT:=ai @ae.{0} @bh.{0,0}
end Go
namespace Go.Proofs
open Shelf
def Tryz.lays137_ren:Go.Shelf.Ren:=⟨fun|137=>239|217=>281|266=>301|n=>n,fun|9=>9|5=>5|3=>3|n=>n,fun|n=>n⟩
theorem Tryz.lays137:Go.Proofs.Lays.n137 Tryz.prog Tryz.lays137_ren:={
 mixed:=by kernel_rfl
 f137:=Tryz.func239.trans (congrArg some aS)
 f217:=Tryz.func281.trans (congrArg some aS)
 f266:=Tryz.func301.trans (congrArg some aS)
 t3:=Tryz.underlying3
 a3:=Tryz.isAgg3
 z3:=Tryz.sizeOf3
 v3:=Tryz.zeroValue3
 t5:=Tryz.underlying5
 a5:=Tryz.isAgg5
 z5:=Tryz.sizeOf5
 v5:=Tryz.zeroValue5
 t9:=Tryz.underlying9
 a9:=Tryz.isAgg9
 z9:=Tryz.sizeOf9
 v9:=Tryz.zeroValue9}
open RowKit in
theorem Tryz.strings_IndexByte(s:ByteArray)(c:Int)(w:World) :
  Calls Tryz.prog 239 #[.string s,.int .u8 c] w λe w'=>e=.returned (.int .i64 (Lib.indexByte s.data.toList c.toNat.toUInt8))/\w'=w:=Any.strings_IndexByte Tryz.lays137 s c w
def Tryz.lays144_ren:Go.Shelf.Ren:=⟨fun|144=>283|143=>303|219=>315|217=>281|225=>322|224=>323|267=>324|266=>301|314=>329|n=>n,fun|9=>9|4=>4|3=>3|5=>5|46=>307|146=>310|51=>309|n=>n,fun|1=>0|n=>n⟩
theorem Tryz.lays144:Go.Proofs.Lays.n144 Tryz.prog Tryz.lays144_ren:={
 mixed:=by kernel_rfl
 f143:=Tryz.func303.trans (congrArg some aS)
 f144:=Tryz.func283.trans (congrArg some aS)
 f217:=Tryz.func281.trans (congrArg some aS)
 f219:=Tryz.func315.trans (congrArg some aS)
 f224:=Tryz.func323.trans (congrArg some aS)
 f225:=Tryz.func322.trans (congrArg some aS)
 f266:=Tryz.func301.trans (congrArg some aS)
 f267:=Tryz.func324.trans (congrArg some aS)
 f314:=Tryz.func329.trans (congrArg some aS)
 t3:=Tryz.underlying3
 a3:=Tryz.isAgg3
 z3:=Tryz.sizeOf3
 v3:=Tryz.zeroValue3
 t4:=Tryz.underlying4
 a4:=Tryz.isAgg4
 z4:=Tryz.sizeOf4
 v4:=Tryz.zeroValue4
 t5:=Tryz.underlying5
 a5:=Tryz.isAgg5
 z5:=Tryz.sizeOf5
 v5:=Tryz.zeroValue5
 t9:=Tryz.underlying9
 a9:=Tryz.isAgg9
 z9:=Tryz.sizeOf9
 v9:=Tryz.zeroValue9
 t46:=Tryz.underlying307
 a46:=Tryz.isAgg307
 z46:=Tryz.sizeOf307
 v46:=Tryz.zeroValue307
 t51:=Tryz.underlying309
 a51:=Tryz.isAgg309
 z51:=Tryz.sizeOf309
 v51:=Tryz.zeroValue309
 t146:=Tryz.underlying310
 a146:=Tryz.isAgg310
 z146:=Tryz.sizeOf310
 v146:=Tryz.zeroValue310
 g1:=by kernel_rfl}
open RowKit Lib in
theorem Tryz.strings_Contains(s sub:ByteArray)(m:Int)(w:World)(hs:s.size<4294967281)(hm:w.cell? ⟨0,0,none⟩=some (.int .i64 m)) :
  Calls Tryz.prog 283 #[.string s,.string sub] w λe w'=>e=.returned (.bool (Lib.contains s.data.toList sub.data.toList))/\w'=w:=Any.strings_Contains Tryz.lays144 s sub m w hs hm
def Tryz.laysGw15_ren:Go.Shelf.Ren:=⟨fun|15=>201|20=>263|n=>n,fun|9=>9|23=>219|3=>3|4=>4|0=>0|21=>21|n=>n,fun|n=>n⟩
theorem Tryz.laysGw15:Go.Proofs.LaysGw.n15 Tryz.prog Tryz.laysGw15_ren:={
 mixed:=by kernel_rfl
 f15:=Tryz.func201.trans (congrArg some aS)
 f20:=Tryz.func263.trans (congrArg some aS)
 t0:=Tryz.underlying0
 a0:=Tryz.isAgg0
 z0:=Tryz.sizeOf0
 v0:=Tryz.zeroValue0
 i0:=by kernel_rfl
 t3:=Tryz.underlying3
 a3:=Tryz.isAgg3
 z3:=Tryz.sizeOf3
 v3:=Tryz.zeroValue3
 i3:=by kernel_rfl
 t4:=Tryz.underlying4
 a4:=Tryz.isAgg4
 z4:=Tryz.sizeOf4
 v4:=Tryz.zeroValue4
 i4:=by kernel_rfl
 t9:=Tryz.underlying9
 a9:=Tryz.isAgg9
 z9:=Tryz.sizeOf9
 v9:=Tryz.zeroValue9
 i9:=by kernel_rfl
 t21:=Tryz.underlying21
 a21:=Tryz.isAgg21
 z21:=Tryz.sizeOf21
 v21:=Tryz.zeroValue21
 i21:=by kernel_rfl
 t23:=Tryz.underlying219
 a23:=Tryz.isAgg219
 z23:=Tryz.sizeOf219
 v23:=Tryz.zeroValue219
 i23:=by kernel_rfl}
open RowKit Lib in
def Tryz.lays99_ren:Go.Shelf.Ren:=⟨fun|99=>238|206=>280|n=>n,fun|9=>9|4=>4|3=>3|n=>n,fun|n=>n⟩
theorem Tryz.lays99:Go.Proofs.Lays.n99 Tryz.prog Tryz.lays99_ren:={
 mixed:=by kernel_rfl
 f99:=Tryz.func238.trans (congrArg some aS)
 f206:=Tryz.func280.trans (congrArg some aS)
 t3:=Tryz.underlying3
 a3:=Tryz.isAgg3
 z3:=Tryz.sizeOf3
 v3:=Tryz.zeroValue3
 t4:=Tryz.underlying4
 a4:=Tryz.isAgg4
 z4:=Tryz.sizeOf4
 v4:=Tryz.zeroValue4
 t9:=Tryz.underlying9
 a9:=Tryz.isAgg9
 z9:=Tryz.sizeOf9
 v9:=Tryz.zeroValue9}
open RowKit Lib in
theorem Tryz.strings_HasPrefix(s p:ByteArray)(w:World) :
  Calls Tryz.prog 238 #[.string s,.string p] w λe w'=>e=.returned (.bool (Lib.hasPrefix s.data.toList p.data.toList))/\w'=w:=Any.strings_HasPrefix Tryz.lays99 s p w
open RowKit Lib in
theorem Tryz.strings_IndexFunc_grows(g:Nat)(lb:Array Value)(eg:∀ args w,(callFunc g args).run Tryz.prog w=.ok (.enter g args) w)(p:Nat->Bool)(s:ByteArray)(w:World)(hp:PredGrows Tryz.prog g lb p w) :
  Calls Tryz.prog 201 #[.string s,.func (.func g) #[] lb] w λe w'=>e=.returned (.int .i64 (Lib.idxFunc p true s))/\Below w.heap.size w w':=Any.strings_IndexFunc_grows Tryz.laysGw15 g lb eg p s w hp
end Go.Proofs
namespace Go.Pe
inductive C where
 | any
 | undef
 | lit (v:Value)
 | sl (cs:List C) (n:Nat)
 | ref (cs:List C)
 | fn (f:Nat) (caps:List C)
 | agg (cs:List C)
 | tup (cs:List C)
 | ifc (t:Nat) (c:C)
abbrev ci(n:Int):C:=.lit (.int .i64 n)
abbrev cb(b:Bool):C:=.lit (.bool b)
abbrev aJ(s:ByteArray):C:=.lit (.string s)
def C.cells:C->List C
 | .agg cs=>cs
 | c=>[c]
inductive Tk where
 | nm (clk ix i:Nat)
 | cell (r off:Nat)
 deriving DecidableEq
abbrev abw(r:Nat):Tk:=.cell r 1099511627776
def Tk.isRow:Tk->Bool
 | .cell _ o=>o == 1099511627776
 | .nm ..=>false
inductive X where
 | of (a:C)
 | nil
 | own (t:Tk) (e z:Nat) (cs:List C) (n:Nat)
 | ptr (r off:Nat)
 | mp (r:Nat)
 | clo (f:Nat) (caps:List X)
 | agg (xs:List X)
 | tup (xs:List X)
 | nw (o:Option Tk) (ty z:Nat)
 | top (r e z:Nat)
abbrev au(n:Int):X:=.of (ci n)
abbrev aN(b:Bool):X:=.of (cb b)
abbrev ahQ(s:ByteArray):X:=.of (aJ s)
inductive Ob where
 | var (ty:Nat) (xs:List X)
 | map (es:List (Value×C))
 | row (ty:Nat) (cs:List C)
def Ob.live:Ob->Bool
 | .row _ []=>false
 | _=>true
mutual
def X.rd:X->Option C
 | .of c=>some c
 | .nil=>some (.sl [] 0)
 | .own _ _ _ cs n=>some (.sl cs n)
 | .agg xs=>(X.rds xs).map .agg
 | _=>none
def X.rds:List X->Option (List C)
 | []=>some []
 | x::r=>match x.rd,X.rds r with
  | some c,some cs=>some (c::cs)
  | _,_=>none
end
def af5(t:Tk):Option Tk->Option Tk
 | some t'=>if t'=t then none else some t'
 | none=>none
mutual
def X.drop(t:Tk):X->X
 | .own t' e z cs n=>if t'=t then .of (.sl cs n) else .own t' e z cs n
 | .clo f caps=>.clo f (X.drops t caps)
 | .agg xs=>.agg (X.drops t xs)
 | .tup xs=>.tup (X.drops t xs)
 | .nw o ty z=>.nw (af5 t o) ty z
 | x=>x
def X.drops(t:Tk):List X->List X
 | []=>[]
 | x::r=>x.drop t::X.drops t r
end
def Ob.drop(t:Tk):Ob->Ob
 | .var ty xs=>.var ty (X.drops t xs)
 | o=>o
mutual
def X.tr(σ:Nat->Option Nat)(ρ:Tk->Option Tk):X->X
 | .of c=>.of c
 | .nil=>.nil
 | .own t e z cs n=>match ρ t with
  | some t'=>.own t' e z cs n
  | none=>.of (.sl cs n)
 | .ptr r off=>match σ r with
  | some r'=>.ptr r' off
  | none=>.of .any
 | .mp r=>match σ r with
  | some r'=>.mp r'
  | none=>.of .any
 | .clo f caps=>.clo f (X.trs σ ρ caps)
 | .agg xs=>.agg (X.trs σ ρ xs)
 | .tup xs=>.tup (X.trs σ ρ xs)
 | .nw o ty z=>.nw (o.bind ρ) ty z
 | .top r e z=>match σ r with
  | some r'=>if ρ (abw r)=some (abw r') then .top r' e z else .of .any
  | none=>.of .any
def X.trs(σ:Nat->Option Nat)(ρ:Tk->Option Tk):List X->List X
 | []=>[]
 | x::r=>x.tr σ ρ::X.trs σ ρ r
end
def Ob.tr(σ:Nat->Option Nat)(ρ:Tk->Option Tk):Ob->Ob
 | .var ty xs=>.var ty (X.trs σ ρ xs)
 | .map es=>.map es
 | .row ty cs=>.row ty cs
mutual
def X.refs:X->List Nat
 | .ptr r _=>[r]
 | .mp r=>[r]
 | .top r _ _=>[r]
 | .clo _ caps=>X.refsL caps
 | .agg xs=>X.refsL xs
 | .tup xs=>X.refsL xs
 | _=>[]
def X.refsL:List X->List Nat
 | []=>[]
 | x::r=>x.refs++X.refsL r
end
mutual
def X.toks:X->List Tk
 | .own t _ _ _ _=>[t]
 | .clo _ caps=>X.toksL caps
 | .agg xs=>X.toksL xs
 | .tup xs=>X.toksL xs
 | .nw o _ _=>o.toList
 | _=>[]
def X.toksL:List X->List Tk
 | []=>[]
 | x::r=>x.toks++X.toksL r
end
def Ob.refs:Ob->List Nat
 | .var _ xs=>X.refsL xs
 | .map _=>[]
 | .row ..=>[]
def pos{α:Type}[DecidableEq α]:List α->α->Option Nat
 | [],_=>none
 | a::l,b=>if a=b then some 0 else (pos l b).map (·+1)
def nub{α:Type}[DecidableEq α]:List α->List α->List α
 | [],seen=>seen
 | a::l,seen=>if a∈seen then nub l seen else nub l (seen++[a])
def fE(objs:List Ob):Nat->List Nat->List Nat->List Nat
 | 0,_,seen=>seen
 | _+1,[],seen=>seen
 | n+1,r::todo,seen=>if r∈seen then fE objs n todo seen else fE objs n (((objs[r]?).map Ob.refs).getD []++todo) (seen++[r])
def abc(refs:List Nat)(ts:List Tk)(t:Tk):Option Tk:=match pos ts t with
 | some i=>some (.nm 0 0 i)
 | none=>match t with
  | .cell r off=>(pos refs r).map λr'=>.cell r' off
  | .nm ..=>none
def dz(refs:List Nat)(ts:List Tk)(t:Tk):Option Tk:=if t∈ts then none else match t with
 | .cell r _=>if r∈refs then none else some t
 | .nm ..=>some t
def eM(refs:List Nat)(L i:Nat):Nat:=match refs[i]? with
 | some r=>r
 | none=>L+(i-refs.length)
def eJ(refs:List Nat)(L clk ix:Nat):Tk->Option Tk
 | .nm 0 0 i=>some (.nm clk ix i)
 | .nm ..=>none
 | .cell r off=>some (.cell (eM refs L r) off)
def agz(ts:List Tk)(objs:List Ob):List Ob:=match ts with
 | []=>objs
 | ts=>objs.map (Ob.tr some λt=>if t∈ts then none else some t)
def abj(σ:Nat->Option Nat)(ρ:Tk->Option Tk)(objs:List Ob):List Nat->Option (List Ob)
 | []=>some []
 | r::l=>match objs[r]?,abj σ ρ objs l with
  | some ob,some q=>some (ob.tr σ ρ::q)
  | _,_=>none
def aa7(σ:Nat->Option Nat)(ρ:Tk->Option Tk):List Ob->List Nat->List Ob->List Ob
 | objs,r::l,ob::q=>aa7 σ ρ (objs.set r (ob.tr σ ρ)) l q
 | objs,_,_=>objs
def aoG(t:Option Tk)(x:X):X:=match t with|none=>x|some t=>x.drop t
structure S where
 fr:Nat->X
 objs:List Ob
 clk:Nat
def upd(f:Nat->X)(d:Nat)(x:X):Nat->X:=λj=>if j=d then x else f j
def S.put(s:S)(d:Option Nat)(x:X):S:=match d with
 | none=>s
 | some d=>{s with fr:=upd s.fr d x}
def S.drop(s:S)(t:Option Tk):S:=match t with
 | none=>s
 | some t=>{s with fr:=λj=>(s.fr j).drop t,objs:=s.objs.map (·.drop t)}
def aJE:Value->Option C
 | .int k n=>some (.lit (.int k n))
 | .bool b=>some (.lit (.bool b))
 | .string s=>some (.lit (.string s))
 | .slice none 0 0=>some (.sl [] 0)
 | _=>none
def axD:List Value->Option (List C)
 | []=>some []
 | v::r=>match aJE v,axD r with
  | some c,some cs=>some (c::cs)
  | _,_=>none
def aJG(vs:List Value):C:=match axD vs with
 | some cs=>.agg cs
 | none=>.any
def abK:Value->X
 | .slice none 0 0=>.nil
 | .int k n=>.of (.lit (.int k n))
 | .bool b=>.of (.lit (.bool b))
 | .string s=>.of (.lit (.string s))
 | .pointer none=>.of (.lit (.pointer none))
 | .map none=>.of (.lit (.map none))
 | .nilFunc=>.of (.lit .nilFunc)
 | .nilIface=>.of (.lit .nilIface)
 | .agg vs=>.of (aJG vs.toList)
 | _=>.of .any
def S.ev(s:S):Operand->X
 | .tmp t=>s.fr t
 | .const v=>abK v
 | .func f=>.of (.fn f [])
 | .global _=>.of .any
structure TD where
 und:TypeDesc
 size:Nat
 bytes:Nat
 agg:Bool
 zero:List Value
 fields:List (Nat×Nat)
abbrev TT:=Nat->Option TD
def ans:TypeDesc->Bool
 | .struct _=>true
 | .array _ _=>true
 | _=>false
def anr:Value->Bool
 | .agg _=>true
 | _=>false
def fieldsOf(P:Program):TypeDesc->Option (List (Nat×Nat))
 | .struct fs=>fs.toList.mapM λf=>(P.info? f.type).map λi=>(f.offset,i.size)
 | _=>some []
def TT.of(P:Program):TT:=λt=>match P.underlying t,P.info? t with
 | some u,some i=>match i.zero,fieldsOf P u with
  | some z,some fl=>if z.cells.toList.all (·.oneCell')&&z.cells.size == i.size&&anr z == ans u then some ⟨u,i.size,i.bytes,ans u,z.cells.toList,fl⟩ else none
  | _,_=>none
 | _,_=>none
def LIM:Nat:=4294967296
def afM:Nat:=140737488355328
def ae6(op:BinOp)(k:IntKind)(a b:Int):Option Value:=match op with
 | .add=>some (.int k (k.wrap (a+b)))
 | .sub=>some (.int k (k.wrap (a-b)))
 | .mul=>some (.int k (k.wrap (a*b)))
 | .quo=>if b=0 then none else some (.int k (k.wrap (a.tdiv b)))
 | .rem=>if b=0 then none else some (.int k (a.tmod b))
 | .eql=>some (.bool (decide (a=b)))
 | .neq=>some (.bool (!decide (a=b)))
 | .lss=>some (.bool (decide (a<b)))
 | .leq=>some (.bool (decide (a<=b)))
 | .gtr=>some (.bool (decide (b<a)))
 | .geq=>some (.bool (decide (b<=a)))
 | .and=>some (.int k (k.wrap (BitVec.ofInt k.bits a &&& BitVec.ofInt k.bits b).toNat))
 | .andNot=>some (.int k (k.wrap (BitVec.ofInt k.bits a &&& ~~~BitVec.ofInt k.bits b).toNat))
 | _=>none
def anM(op:BinOp)(a b:ByteArray):Option Value:=match op with
 | .add=>if a.size+b.size<=afM then some (.string (a++b)) else none
 | .eql=>some (.bool (decide (a=b)))
 | .neq=>some (.bool (!decide (a=b)))
 | _=>none
def asA(op:BinOp)(a b:Bool):Option Value:=match op with
 | .eql=>some (.bool (a == b))
 | .neq=>some (.bool (!(a == b)))
 | _=>none
def aoy:Option TypeDesc->Bool
 | some .bool=>true
 | _=>false
def acg(u:Option TypeDesc)(op:BinOp):Value->Value->Option Value
 | .int k a,.int k' b=>if k=k' then ae6 op k a b else none
 | .string a,.string b=>anM op a b
 | .bool a,.bool b=>if aoy u then asA op a b else none
 | _,_=>none
def aqk(op:UnOp):Value->Option Value
 | .int k n=>match op with
  | .neg=>some (.int k (k.wrap (0-n)))
  | _=>none
 | .bool b=>match op with
  | .not=>some (.bool (!b))
  | _=>none
 | _=>none
def akG:Value->Value->Option Bool
 | .int k a,.int k' b=>if k=k' then some (decide (a=b)) else none
 | .string a,.string b=>some (decide (a=b))
 | .bool a,.bool b=>some (a == b)
 | _,_=>none
def aa8:X->Option Int
 | .of (.lit (.int .i64 n))=>some n
 | _=>none
def adk:X->Option Bool
 | .of (.lit (.bool b))=>some b
 | _=>none
def aaR:X->Option (List C×Nat)
 | .nil=>some ([],0)
 | .own _ _ _ cs n=>some (cs,n)
 | .of (.sl cs n)=>some (cs,n)
 | _=>none
def cJ:X->Option (List X)
 | .agg xs=>some xs
 | .of (.agg cs)=>some (cs.map .of)
 | .of .any=>none
 | .of .undef=>none
 | .of (.tup _)=>none
 | .tup _=>none
 | .nw ..=>none
 | x=>some [x]
def fW(x:X):Option (List C):=(cJ x).bind X.rds
def aah(place:Nat->Option (Nat×Nat))(cells:List X):List (Nat×List X)->Option (List X)
 | []=>some cells
 | (i,xs)::rest=>match place i with
  | none=>none
  | some (off,size) =>
   if xs.length=size/\off+size<=cells.length then aah place (cells.take off++xs++cells.drop (off+size)) rest
   else none
def fU(d:TD):List X:=d.zero.map abK
def dQ(T:TT)(t:Nat)(cs:List C):Option C:=match T t with
 | none=>none
 | some d=>if d.size<=cs.length then (if d.agg then some (.agg (cs.take d.size)) else match cs with
   | c::_=>some c
   | []=>none) else none
def dP(T:TT)(t:Nat)(xs:List X):Option X:=match T t with
 | none=>none
 | some d=>if d.size<=xs.length then (if d.agg then some (.agg (xs.take d.size)) else match xs with
   | x::_=>some x
   | []=>none) else none
def elemOf(T:TT)(t:Nat):Option (Nat×TD):=match T t with
 | some {und:=.slice e,..}=>(T e).map λd=>(e,d)
 | _=>none
def gN(f:Operand->X)(ps:List (Nat×Operand)):Option (List (Nat×List X)):=match ps with
 | []=>some []
 | (i,x)::r=>match cJ (f x),gN f r with
  | some l,some q=>some ((i,l)::q)
  | _,_=>none
def abJ(f:Operand->X):List Operand->Option (List C)
 | []=>some []
 | x::r=>match (f x).rd,abJ f r with
  | some c,some cs=>some (c::cs)
  | _,_=>none
abbrev Out:=Option (X×Option Tk)
def out(x:X):Out:=some (x,none)
def bX(x:Option X):Out:=x.map λx=>(x,none)
def afF:Option TypeDesc->Bool
 | some .string=>true
 | _=>false
def aj3(s:ByteArray):List C:=s.data.toList.map λb=>.lit (.int .u8 b.toNat)
def amh:Option TD->Bool
 | some {und:=.int .u8,size:=1,..}=>true
 | _=>false
def aiK(T:TT)(st xt e:Nat)(x:X):Option (List C×Nat) :=
 if st=xt then aaR x else match x with
  | .of (.lit (.string s))=>if afF ((T xt).map (·.und))=true/\amh (T e)=true then some (aj3 s,s.size) else none
  | _=>none
def aaG(T:TT)(t:Tk)(st xt:Nat)(s x:X):Out:=match elemOf T st with
 | some (e,d)=>match aiK T st xt e x with
  | some (ys,m) =>
   if ys.length=m*d.size/\0<d.size then match s with
    | .nil=>if m<=LIM/\d.bytes<=32768 then some (.own t e d.size ys m,none) else none
    | .own t' e' z cs n=>if e'=e/\z=d.size/\n+m<=LIM/\d.bytes<=32768 then some (.own t e d.size (cs++ys) (n+m),some t') else none
    | _=>none
   else none
  | none=>none
 | none=>none
def aeX(d:Int):Option X->Option Int
 | none=>some d
 | some l=>aa8 l
def adq(T:TT)(t:Nat)(x:X)(lo hi:Option X):Out :=
 match x with
 | .of (.lit (.string s)) =>
  if afF ((T t).map (·.und)) then match aeX 0 lo,aeX (s.size:Int) hi with
  | some l,some h=>if 0<=l/\l<=h/\h<=(s.size:Int) then out (.of (.lit (.string (s.extract l.toNat h.toNat)))) else none
  | _,_=>none
  else none
 | x=>match elemOf T t,aaR x with
  | some (_,d),some (cs,n) =>
   match aeX 0 lo,aeX (n:Int) hi with
   | some l,some h=>if 0<=l/\l<=h/\h<=(n:Int)/\cs.length=n*d.size then out (.of (.sl ((cs.drop (l.toNat*d.size)).take ((h.toNat-l.toNat)*d.size)) (h.toNat-l.toNat))) else none
   | _,_=>none
  | _,_=>none
def abf(T:TT)(objs:List Ob)(t:Nat):X->Out
 | .ptr r off=>match objs[r]? with
  | some (.var _ xs)=>bX (dP T t (xs.drop off))
  | some (.row _ (c::cs))=>bX ((dQ T t ((c::cs).drop off)).map .of)
  | _=>none
 | .of (.ref cs)=>bX ((dQ T t cs).map .of)
 | _=>none
def aie(T:TT)(t f:Nat):Option (Nat×Nat):=(T t).bind λd=>d.fields[f]?
def gu(T:TT)(t f:Nat)(x:X):Out:=match aie T t f with
 | some (o,z)=>if 0<z then match x with
  | .ptr r off=>out (.ptr r (off+o))
  | .of (.ref cs)=>out (.of (.ref (cs.drop o)))
  | _=>none else none
 | none=>none
def aoC:TypeDesc->Nat->Option Nat
 | .struct fs,i=>(fs[i]?).map (·.type)
 | _,_=>none
def agv(T:TT)(t f:Nat)(x:X):Out:=match T t with
 | some d=>match d.fields[f]?,aoC d.und f with
  | some (o,_),some u=>match x with
   | .agg xs=>bX (dP T u (xs.drop o))
   | .of (.agg cs)=>bX ((dQ T u (cs.drop o)).map .of)
   | _=>none
  | _,_=>none
 | none=>none
def ahS(e z:Nat)(i:Int):X->Out
 | .top r e' z'=>if e'=e/\z'=z/\i=0/\0<z then out (.ptr r 0) else none
 | _=>none
def cn(T:TT)(t:Nat)(x i:X):Out:=match aa8 i with
 | none=>none
 | some i=>match T t with
  | some {und:=.slice e,..}=>match T e,aaR x with
   | some d,some (cs,n)=>if 0<=i/\i<(n:Int)/\cs.length=n*d.size/\0<d.size then out (.of (.ref (cs.drop (i.toNat*d.size)))) else none
   | some d,none=>ahS e d.size i x
   | _,_=>none
  | some {und:=.array n e,..}=>match T e with
   | some d=>if 0<=i/\i<(n:Int) then match x with
    | .ptr r off=>out (.ptr r (off+i.toNat*d.size))
    | .of (.ref cs)=>out (.of (.ref (cs.drop (i.toNat*d.size))))
    | _=>none else none
   | none=>none
  | _=>none
def afG(T:TT)(t:Nat)(x i:X):Out:=match aa8 i with
 | none=>none
 | some i=>match x with
  | .of (.lit (.string s))=>if h:afF ((T t).map (·.und))=true/\0<=i/\i.toNat<s.size then out (.of (.lit (.int .u8 (s[i.toNat]'h.2.2).toNat))) else none
  | .agg xs=>match T t with
   | some {und:=.array n e,..}=>match T e with
    | some d=>if 0<=i/\i<(n:Int) then bX (dP T e (xs.drop (i.toNat*d.size))) else none
    | none=>none
   | _=>none
  | .of (.agg cs)=>match T t with
   | some {und:=.array n e,..}=>match T e with
    | some d=>if 0<=i/\i<(n:Int) then bX ((dQ T e (cs.drop (i.toNat*d.size))).map .of) else none
    | none=>none
   | _=>none
  | _=>none
def ajj:Option TypeDesc->Bool
 | some (.slice _)=>true
 | _=>false
def ajD(b:Bool):X->Out
 | .top ..=>if b=true then out (au 1) else none
 | _=>none
def aaI(u:Option TypeDesc)(x:X):Out:=match x with
 | .of (.lit (.string s))=>if afF u then out (au s.size) else none
 | x=>match aaR x with
  | some (_,n)=>if ajj u then out (au n) else none
  | none=>ajD (ajj u) x
def ae9:List C->Option (List UInt8)
 | []=>some []
 | .lit (.int .u8 n)::r=>(ae9 r).map (UInt8.ofNat n.toNat::·)
 | _=>none
def ajm(T:TT)(src:Option TD)(x:X):Out:=match src,aaR x with
 | some {und:=.slice e,..},some (cs,n)=>if amh (T e)=true/\cs.length=n then bX ((ae9 cs).map λl=>ahQ ⟨l.toArray⟩) else none
 | _,_=>none
def adA(T:TT)(src dst:Nat)(x:X):Out:=match T src,(T dst).map (·.und),x with
 | some _,some (TypeDesc.int k),.of (.lit (.int _ n))=>out (.of (.lit (.int k (k.wrap n))))
 | some _,some TypeDesc.string,.of (.lit (.string s))=>out (.of (.lit (.string s)))
 | d,some TypeDesc.string,x=>ajm T d x
 | _,_,_=>none
def au4(T:TT)(a e:Nat)(s:ByteArray):Out:=if afF ((T a).map (·.und))&&amh (T e) then out (.of (.sl (aj3 s) s.size)) else none
def ad3(T:TT)(a b:Nat)(x:X):Out:=match (T b).map (·.und),x with
 | some (TypeDesc.slice e),.of (.lit (.string s))=>au4 T a e s
 | _,x=>adA T a b x
def aeQ(kind:TypeDesc)(k:Value):List (Value×C)->Nat->Option (Option Nat)
 | [],_=>some none
 | e::es,i=>match Instr.sameNow kind k e.1 with
  | some true=>some (some i)
  | some false=>aeQ kind k es (i+1)
  | none=>none
def aox:TypeDesc->Bool
 | .int _=>true
 | .string=>true
 | .bool=>true
 | _=>false
def gG:X->Option Value
 | .of (.lit v)=>some v
 | _=>none
def agH(objs:List Ob):X->Option (List (Value×C))
 | .mp r=>match objs[r]? with
  | some (.map es)=>some es
  | _=>none
 | .of (.lit (.map none))=>some []
 | _=>none
def ake(T:TT)(t:Nat):Option X:=match T t with
 | some d=>dP T t (fU d)
 | none=>none
def agG(T:TT)(t:Nat):Option (TypeDesc×Nat):=match T t with
 | some {und:=.map kt et,..}=>match (T kt).map (·.und) with
  | some kind=>if aox kind then some (kind,et) else none
  | none=>none
 | _=>none
def amn:Option TypeDesc->Value->Bool
 | some (.int _),.int _ _=>true
 | some .string,.string _=>true
 | some .bool,.bool _=>true
 | _,_=>false
def aev(T:TT):Nat->List Field->List C->List C->Option Bool
 | _,[],[],[]=>some true
 | o,f::fs,.lit u::r,.lit v::q =>
  if f.name != "_"&&f.offset == o&&amn ((T f.type).map (·.und)) u&&amn ((T f.type).map (·.und)) v then match akG u v with
   | some true=>aev T (o+1) fs r q
   | b=>b
  else none
 | _,_,_,_=>none
def af4(P:Program)(T:TT)(t:Nat)(cs ds:List C):Option Bool:=match T t with
 | some {und:=.struct fs,..}=>if P.stoodInHeld t=false/\P.eqGuardType P.depth t=false then aev T 0 fs.toList cs ds else none
 | _=>none
def ae7(P:Program)(T:TT)(t:Nat)(op:BinOp):Option C->Option C->Out
 | some (.agg cs),some (.agg ds)=>match op with
  | .eql=>bX ((af4 P T t cs ds).map aN)
  | .neq=>bX ((af4 P T t cs ds).map λb=>aN (!b))
  | _=>none
 | _,_=>none
def gJ(P:Program)(T:TT)(t:Nat)(u:Option TypeDesc)(op:BinOp)(x y:X):Out:=match gG x,gG y with
 | some a,some b=>bX ((acg u op a b).map λv=>.of (.lit v))
 | _,_=>ae7 P T t op x.rd y.rd
def afc(T:TT)(objs:List Ob)(t:Nat)(x k:X)(ok:Bool):Out:=match agG T t,gG k,agH objs x with
 | some (kind,et),some kv,some es=>match aeQ kind kv es 0 with
  | some (some i)=>bX ((es[i]?).map λe=>if ok then .tup [.of e.2,aN true] else .of e.2)
  | some none=>bX ((ake T et).map λz=>if ok then .tup [z,aN false] else z)
  | none=>none
 | _,_,_=>none
def al2(kind:TypeDesc)(k:Value)(c:C)(es:List (Value×C)):Option (List (Value×C)):=match aeQ kind k es 0 with
 | some (some i)=>some (es.set i (k,c))
 | some none=>some (es++[(k,c)])
 | none=>none
def aJC(kind:TypeDesc)(k:Value)(es:List (Value×C)):Option (List (Value×C)):=match aeQ kind k es 0 with
 | some (some i)=>some (es.eraseIdx i)
 | some none=>some es
 | none=>none
structure An where
 pan:Bool
 rs:List X
 obs:List Ob
abbrev Orc:=Nat->List X->List Ob->Option An
structure En where
 orc:Orc
 obj:Nat->Bool
 tk:Nat->Bool
 mt:String->Option Nat->Bool
def agf:List X->X
 | [x]=>x
 | xs=>.tup xs
def fh(P:Program)(f:Nat):Bool:=match P.funcs[f]? with
 | some fn=>fn.body.isSome&&!(fn.name == "runtime.NumGoroutine")
 | none=>false
def adv(clk ix:Nat):Tk->Option Tk
 | .nm 0 0 i=>some (.nm clk ix i)
 | _=>none
def aht(clk ix:Nat)(xs:List X):List X:=X.trs (λ_=>none) (adv clk ix) xs
def afs(P:Program)(E:En)(clk ix f:Nat)(cs:List C):Out :=
 if fh P f&&!E.obj f then match E.orc f (cs.map .of) [] with
  | some ⟨false,rs,[]⟩=>out (agf (aht clk ix rs))
  | _=>none
 else none
def apQ:Option TypeDesc->Bool
 | none=>false
 | some (.interface _)=>false
 | some _=>true
def awL(x y:X):Out:=match aa8 x,aa8 y with
 | some a,some b=>out (au (if b<a then b else a))
 | _,_=>none
def apG(x y:X):Out:=match aa8 x,aa8 y with
 | some a,some b=>out (au (if a<b then b else a))
 | _,_=>none
def asX(T:TT)(u:Nat):X->Bool->Out
 | .of (.ifc t c),true=>if apQ ((T u).map (·.und))=true/\t=u then out (.of (.tup [c,.lit (.bool true)])) else none
 | _,_=>none
def ae8(P:Program)(T:TT)(E:En)(s:S)(ix:Nat):Callee->List Operand->List Nat->Out
 | .builtin .len,[x],[t]=>aaI ((T t).map (·.und)) (s.ev x)
 | .builtin .append,[a,b],[st,xt]=>aaG T (.nm s.clk ix 0) st xt (s.ev a) (s.ev b)
 | .builtin .min,[a,b],_=>awL (s.ev a) (s.ev b)
 | .builtin .max,[a,b],_=>apG (s.ev a) (s.ev b)
 | .value f,args,_=>match s.ev f,abJ s.ev args with
  | .of (.fn f caps),some cs=>afs P E s.clk ix f (cs++caps)
  | _,_=>none
 | _,_,_=>none
def aiY:X->Option X
 | .of c=>some (.of c)
 | .nil=>some .nil
 | .own _ _ _ cs n=>some (.of (.sl cs n))
 | .ptr r o=>some (.ptr r o)
 | _=>none
def afq:List X->Option (List X)
 | []=>some []
 | x::l=>match aiY x,afq l with
  | some y,some r=>some (y::r)
  | _,_=>none
def asy(f:Nat):Option (List X)->Out
 | some xs=>out (.clo f xs)
 | none=>none
def anI(g:Nat):Nat:=g / 2
def axH(g:Nat)(caps args:List X):List X:=if g % 2=0 then args++caps else caps++args
def val(P:Program)(T:TT)(E:En)(s:S)(ix:Nat)(o:Oper):Out :=
 match o.op with
 | .move x | .assign x=>out (s.ev x)
 | .pick c a b=>match adk (s.ev c) with
  | some b'=>out (if b' then s.ev a else s.ev b)
  | none=>none
 | .binOp op t x y _=>gJ P T t ((T t).map (·.und)) op (s.ev x) (s.ev y)
 | .unOp op _ x=>match s.ev x with
  | .of (.lit u)=>bX ((aqk op u).map λv=>.of (.lit v))
  | _=>none
 | .load t a=>abf T s.objs t (s.ev a)
 | .fieldAddr t x f=>gu T t f (s.ev x)
 | .field t x f=>agv T t f (s.ev x)
 | .indexAddr t x i=>cn T t (s.ev x) (s.ev i)
 | .index t x i=>afG T t (s.ev x) (s.ev i)
 | .slice t x lo hi none=>adq T t (s.ev x) (lo.map s.ev) (hi.map s.ev)
 | .build t ps=>match T t,gN s.ev ps.toList with
  | some d,some qs=>match d.und with
   | .struct _=>bX ((aah (λi=>d.fields[i]?) (fU d) qs).map .agg)
   | .array _ e=>match T e with
    | some de=>bX ((aah (λi=>some (i*de.size,de.size)) (fU d) qs).map .agg)
    | none=>none
   | _=>none
  | _,_=>none
 | .buildSlice t' n ps=>match elemOf T t',gN s.ev ps.toList with
  | some (e,d),some qs =>
   if n*d.size<=16777216/\0<d.size/\d.zero.length=d.size then match aah (λi=>some (i*d.size,d.size)) ((List.replicate n (fU d)).flatten) qs with
    | some xs=>match X.rds xs with
     | some cs=>out (.own (.nm s.clk ix 0) e d.size cs n)
     | none=>none
    | none=>none
   else none
  | _,_=>none
 | .extract x i=>match s.ev x with
  | .tup xs=>bX (xs[i]?)
  | .of (.tup cs)=>bX ((cs[i]?).map .of)
  | _=>none
 | .nilCheck x=>match s.ev x with
  | .ptr r off=>out (.ptr r off)
  | .of (.ref cs)=>out (.of (.ref cs))
  | _=>none
 | .makeFunc (.func f) first caps=>if first.size=0 then match abJ s.ev caps.toList with
  | some cs=>out (.of (.fn f cs))
  | none=>asy (2*f) (afq (caps.toList.map s.ev))
  else if caps.size=0 then asy (2*f+1) (afq (first.toList.map s.ev)) else none
 | .convert a b x=>ad3 T a b (s.ev x)
 | .lookup t x i ok=>afc T s.objs t (s.ev x) (s.ev i) ok
 | .makeInterface t x=>match apQ ((T t).map (·.und)),(s.ev x).rd with
  | true,some c=>out (.of (.ifc t c))
  | _,_=>none
 | .typeAssert x _ u ok=>asX T u (s.ev x) ok
 | .call {callee:=cal,args:=args,argTypes:=tys}=>ae8 P T E s ix cal args.toList tys.toList
 | .alloc t=>match T t with
  | some d=>if 0<d.size then out (.nw (some (.nm s.clk ix 0)) t d.size) else none
  | none=>none
 | .store t (.tmp d) x=>match T t,s.fr d,fW (s.ev x),o.guard,o.dst with
  | some td,.nw (some tk) ty z,some cs,none,none=>if ty=t/\z=td.size/\cs.length=z then some (.of (.ref cs),some tk) else none
  | _,_,_,_,_=>none
 | _=>none
def dW(o:Oper):Option Nat:=match o.op,o.guard with
 | .store _ (.tmp d) _,none=>some d
 | _,_=>o.dst
def aaQ(clk:Nat)(after:List Edge):Option Tk->Bool
 | some (.nm c ix _)=>decide (c<clk)||(decide (c=clk)&&after.any λe=>Region.binds .any e&&e.on == ix)
 | some (.cell _ o)=>!(o == 1099511627776)
 | none=>true
def ajQ{clk:Nat}{af:List Edge}{t:Tk}(h:aaQ clk af (some t)=true):t.isRow=false:=by
 cases t with
 | nm c ix i=>rfl
 | cell r o=>simpa [aaQ,Tk.isRow] using h
def fO(P:Program)(T:TT)(E:En)(s:S)(ix:Nat)(o:Oper):Option (Option X×S):=match val P T E s ix o with
 | some (x,t)=>if aaQ s.clk o.after.toList t=true then some (none,(s.drop t).put (dW o) x) else none
 | none=>none
def eS(r:Nat):Nat->List X->List (Tk×Tk)
 | _,[]=>[]
 | off,.own t _ _ _ _::l=>(t,.cell r off)::eS r (off+1) l
 | off,_::l=>eS r (off+1) l
def acx:List (Tk×Tk)->Tk->Option Tk
 | [],_=>none
 | (a,b)::l,t=>if a=t then some b else acx l t
def adW(r off n:Nat)(mv:List (Tk×Tk))(t:Tk):Option Tk:=match acx mv t with
 | some t'=>some t'
 | none=>match t with
  | .cell r' o'=>if r'=r/\off<=o'/\o'<off+n then none else some t
  | .nm ..=>some t
def acK:List X->Bool
 | []=>true
 | .own ..::_=>false
 | _::l=>acK l
def S.tr(ρ:Tk->Option Tk)(s:S):S:={s with fr:=λj=>(s.fr j).tr some ρ,objs:=s.objs.map (Ob.tr some ρ)}
def apK(r off:Nat)(xs ys:List X)(s:S):S:=if acK xs&&acK ys then s else s.tr (adW r off xs.length (eS r off xs))
def alz(s:S)(d:Option Nat)(ty:Nat)(xs:List X):S:=(apK s.objs.length 0 xs [] {s with objs:=s.objs++[Ob.var ty xs]}).put d (.ptr s.objs.length 0)
def aou(s:S)(j ty:Nat)(xs:List X):S:={s with objs:=s.objs++[Ob.var ty xs]}.put (some j) (.ptr s.objs.length 0)
def afx(s:S)(d:Option Nat)(n r off:Nat)(xs:List X):Option S:=match s.objs[r]? with
 | some (.var ty ys)=>if xs.length=n/\off+xs.length<=ys.length then
   some ((apK r off xs ((ys.drop off).take xs.length) {s with objs:=s.objs.set r (Ob.var ty (ys.take off++xs++ys.drop (off+xs.length)))}).put d (.of .undef))
  else none
 | _=>none
def aep(s:S)(c:Callee)(args:List Operand):Option (Nat×List X):=match c with
 | .value f=>match s.ev f with
  | .of (.fn g caps)=>some (g,args.map s.ev++caps.map .of)
  | .clo g caps=>some (anI g,axH g caps (args.map s.ev))
  | _=>none
 | _=>none
def agJ(s:S)(ix:Nat)(d:Option Nat)(refs:List Nat)(ts:List Tk)(an:An):Option (Option X×S) :=
 let σ:=λi=>some (eM refs s.objs.length i)
 let ρ:=eJ refs s.objs.length s.clk ix
 if refs.length<=an.obs.length then
  let s':S:={s with fr:=λj=>(s.fr j).tr some (dz refs ts),objs:=aa7 σ ρ (s.objs.map (Ob.tr some (dz refs ts))) refs an.obs++(an.obs.drop refs.length).map (Ob.tr σ ρ)}
  match an with
  | ⟨true,[x],_⟩=>some (some (x.tr σ ρ),s')
  | ⟨true,_,_⟩=>none
  | ⟨false,rs,_⟩=>some (none,s'.put d (agf (X.trs σ ρ rs)))
 else none
def aej:Option Ob->Bool
 | some ob=>ob.live
 | none=>false
def ajg(objs:List Ob):List Nat->Bool
 | []=>true
 | r::l=>aej objs[r]?&&ajg objs l
def am8:Bool->Option (List Ob)->Option (List Ob)
 | true,x=>x
 | false,_=>none
def callS(P:Program)(E:En)(s:S)(ix:Nat)(d:Option Nat)(f:Nat)(us:List X):Option (Option X×S) :=
 if fh P f then
  let refs:=fE s.objs 999 (X.refsL us) []
  let ts:=if E.tk f then nub (X.toksL us) [] else []
  match am8 (ajg s.objs refs) (abj (pos refs) (abc refs ts) (agz ts s.objs) refs) with
  | some obs=>match E.orc f (X.trs (pos refs) (abc refs ts) us) obs with
   | some an=>agJ s ix d refs ts an
   | none=>none
  | none=>none
 else none
def akD(r:Nat)(t:Tk):Option Tk:=if t=abw r then none else some t
def aQD(T:TT)(s:S)(ix:Nat)(d:Option Nat)(t r e z:Nat):Option (Nat×TD)->Option Int->Option S
 | some (e',td),some 0=>if e'=e/\td.size=z then match s.objs[r]? with
  | some (.row _ (_::_))=>some (({s.tr (akD r) with objs:=((s.tr (akD r)).objs).set r (.row e [])}:S).put d (.own (.nm s.clk ix 0) e z [] 0))
  | _=>none
  else none
 | _,_=>none
def hiX:Option X->Option Int
 | some x=>aa8 x
 | none=>none
def abl(P:Program)(T:TT)(E:En)(dr:Bool)(s:S)(ix:Nat)(o:Oper):Option (Option X×S) :=
 if dr then fO P T E s ix o else
 match o.op with
 | .alloc t=>if E.mt o.pos o.dst then match T t with
   | some d=>some (none,alz s o.dst t (fU d))
   | none=>none
  else fO P T E s ix o
 | .box t x=>if E.mt o.pos o.dst then match T t,cJ (s.ev x) with
   | some d,some xs=>if xs.length=d.size then some (none,alz s o.dst t xs) else none
   | _,_=>none
  else match T t,fW (s.ev x) with
   | some d,some cs=>if cs.length=d.size/\0<d.size then some (none,s.put o.dst (.of (.ref cs))) else none
   | _,_=>none
 | .store t a x=>match s.ev a with
  | .nw (some tk) ty z=>if E.mt o.pos (dW o) then match T t,cJ (s.ev x),dW o with
    | some d,some xs,some j=>if ty=t/\z=d.size/\xs.length=z/\aaQ s.clk o.after.toList (some tk)=true/\o.dst=none then some (none,aou (s.drop (some tk)) j t (X.drops tk xs)) else none
    | _,_,_=>none
   else fO P T E s ix o
  | _=>match T t,s.ev a,cJ (s.ev x) with
   | some d,.ptr r off,some xs=>(afx s o.dst d.size r off xs).map λs=>(none,s)
   | _,_,_=>none
 | .makeMap _ none=>some (none,{s with objs:=s.objs++[Ob.map []]}.put o.dst (.mp s.objs.length))
 | .mapUpdate t m k x=>match agG T t,s.ev m,gG (s.ev k),(s.ev x).rd with
  | some (kind,_),.mp r,some kv,some c=>match s.objs[r]? with
   | some (.map es)=>match al2 kind kv c es with
    | some es'=>some (none,{s with objs:=s.objs.set r (Ob.map es')}.put o.dst (.of .undef))
    | none=>none
   | _=>none
  | _,_,_,_=>none
 | .insert t m k x=>match agG T t,s.ev m,gG (s.ev k),(s.ev x).rd with
  | some (kind,_),.mp r,some kv,some c=>match s.objs[r]? with
   | some (.map es)=>match al2 kind kv c es with
    | some es'=>some (none,{s with objs:=s.objs.set r (Ob.map es')}.put o.dst (.of .undef))
    | none=>none
   | _=>none
  | _,_,_,_=>none
 | .call {callee:=.builtin .delete,args:=args,argTypes:=tys}=>match args.toList,tys.toList with
  | [m,k],[t,_]=>match agG T t,s.ev m,gG (s.ev k) with
   | some (kind,_),.mp r,some kv=>match s.objs[r]? with
    | some (.map es)=>match aJC kind kv es with
     | some es'=>some (none,{s with objs:=s.objs.set r (Ob.map es')}.put o.dst (.tup []))
     | none=>none
    | _=>none
   | _,_,_=>none
  | _,_=>none
 | .panic x=>match (s.ev x).rd with
  | some (.ifc t c)=>some (some (.of (.ifc t c)),s)
  | _=>none
 | .slice t x none hi none=>match s.ev x with
  | .top r e z=>(aQD T s ix o.dst t r e z (elemOf T t) (hiX (hi.map s.ev))).map λs=>(none,s)
  | _=>fO P T E s ix o
 | .call {callee:=.value f,args:=args,argTypes:=_}=>match aep s (.value f) args.toList with
  | some (g,us)=>if E.obj g then callS P E s ix o.dst g us else fO P T E s ix o
  | none=>none
 | _=>fO P T E s ix o
def eV(ops:Array Oper)(s:S)(o:Oper):Option Bool :=
 match o.guard with
 | none=>some true
 | some (j,want)=>match (ops[j]?).bind (·.dst) with
  | some d=>match s.fr d with
   | .of (.lit (.bool b))=>some (b == want)
   | .of .undef=>some false
   | _=>none
  | none=>some false
def bH(P:Program)(T:TT)(E:En)(dr:Bool)(ops:Array Oper)(s:S)(ix:Nat)(o:Oper):Option (Option X×S) :=
 match eV ops s o with
 | some true=>abl P T E dr s ix o
 | some false=>some (none,s.put o.dst (.of .undef))
 | none=>none
def aaV(P:Program)(T:TT)(E:En)(dr:Bool)(ops:Array Oper):Nat->List Oper->S->Option (Option X×S)
 | _,[],s=>some (none,s)
 | k,o::r,s=>match bH P T E dr ops s k o with
  | some (none,s')=>aaV P T E dr ops (k+1) r s'
  | some (some x,s')=>some (some x,s')
  | none=>none
def cZ:Op->Bool
 | .store ..=>true
 | _=>false
def aaO:List Oper->Bool
 | []=>false
 | [o]=>cZ o.op&&o.guard.isNone
 | _::o::l=>aaO (o::l)
def ae4(obj:Nat->Bool):Op->Bool
 | .call {callee:=.value (.func g),args:=args,..}=>args.isEmpty&&obj g
 | _=>false
def aib(obj:Nat->Bool):List Oper->Bool
 | []=>false
 | o::_=>ae4 obj o.op&&o.guard.isNone
def spB(obj:Nat->Bool)(l:List Oper):Bool:=aib obj l||aaO l
def mkA(P:Program)(E:En):Op->Option (List (Value×C))
 | .call {callee:=.value (.func g),..}=>if fh P g then match E.orc g [] [] with
  | some ⟨false,[.mp 0],[.map es]⟩=>some es
  | _=>none
  else none
 | _=>none
def mkS(P:Program)(E:En)(s:S)(o:Oper):Option S:=(mkA P E o.op).map λes=>{s with objs:=s.objs++[Ob.map es]}.put o.dst (.mp s.objs.length)
def acf(P:Program)(T:TT)(E:En)(ops:Array Oper):Nat->List Oper->S->Option (Option X×S)
 | _,[],_=>none
 | k,[o],s=>match bH P T E false ops s k o with
  | some (none,s')=>some (none,s')
  | _=>none
 | k,o::o'::l,s=>match bH P T E true ops s k o with
  | some (none,s')=>acf P T E ops (k+1) (o'::l) s'
  | _=>none
def amr(P:Program)(T:TT)(E:En)(ops:Array Oper)(l:List Oper)(s:S):Option (Option X×S) :=
 if aaO l=true then acf P T E ops 0 l s else match l with
  | o::r=>match mkS P E s o with
   | some s1=>aaV P T E true ops 1 r s1
   | none=>none
  | []=>none
def opK:Op->Nat
 | .store ..=>1
 | .assign _=>2
 | .alloc _=>3
 | .load _ _=>4
 | _=>0
def aJ3:Op->Option Nat
 | .store _ (.tmp d) _=>some d
 | _=>none
def akn:List Oper->Option Nat
 | []=>none
 | [_]=>none
 | [o,o']=>if (cZ o.op&&o.guard.isNone&&(o'.guard.isNone&&(cZ o'.op||opK o'.op == 2)))=true then aJ3 o.op else none
 | _::o::o'::l=>akn (o::o'::l)
def eqD:Option Nat->Nat->Bool
 | some a,d=>a == d
 | none,_=>false
def alo(d:Nat):List Oper->Bool
 | []=>false
 | o::l=>(opK o.op == 3&&eqD o.dst d)||alo d l
def tlM(l:List Oper):Option Nat->Bool
 | some d=>!alo d l
 | none=>false
def tlB(l:List Oper):Bool:=tlM l (akn l)
def aCk(s:S):Op->Bool
 | .load _ a=>match s.ev a with
  | .of (.ref _)=>true
  | _=>false
 | _=>false
def afd(s:S)(o:Oper):Bool:=!(opK o.op == 4)||aCk s o.op
def ahG(P:Program)(T:TT)(E:En)(ops:Array Oper):Nat->List Oper->S->Option (Option X×S)
 | k,o::o'::o''::l,s=>if afd s o=true then match bH P T E true ops s k o with
   | some (none,s')=>ahG P T E ops (k+1) (o'::o''::l) s'
   | _=>none
  else none
 | k,[o,o'],s=>match bH P T E false ops s k o with
  | some (none,s')=>match bH P T E false ops s' (k+1) o' with
   | some (none,s'')=>some (none,s'')
   | _=>none
  | _=>none
 | _,_,_=>none
def ada(obj:Nat->Bool):Op->Bool
 | .call {callee:=.value (.func g),..}=>obj g
 | _=>false
def acr(obj:Nat->Bool):List Oper->Nat
 | []=>0
 | [o]=>if (ada obj o.op&&o.guard.isNone)=true then 1 else 0
 | [o,o']=>if (ada obj o'.op&&o'.guard.isNone)=true then 1 else if (ada obj o.op&&o.guard.isNone&&(opK o'.op == 2&&o'.guard.isNone))=true then 2 else 0
 | _::o::o'::l=>acr obj (o::o'::l)
def okS:Option (Option X×S)->Option S
 | some (none,s)=>some s
 | _=>none
def kM(obj:Nat->Bool)(o:Oper):Bool:=ae4 obj o.op&&o.guard.isNone
def stX(P:Program)(T:TT)(E:En)(ops:Array Oper)(t:Bool)(s:S)(i:Nat)(o:Oper):Option S :=
 if t=true then okS (bH P T E false ops s i o) else if kM E.obj o=true then mkS P E s o else okS (bH P T E true ops s i o)
def evD(P:Program)(T:TT)(E:En)(ops:Array Oper)(n:Nat):Nat->Bool->List Oper->S->Option S
 | _,_,[],s=>some s
 | k,b,o::l,s =>
  if (b&&(!decide (l.length<n)&&kM E.obj o))=true then none else match stX P T E ops (decide (l.length<n)) s k o with
   | some s'=>evD P T E ops n (k+1) (b||(!decide (l.length<n)&&kM E.obj o)) l s'
   | none=>none
def wB(ops:Array Oper)(i:Nat):Nat->Nat->Bool
 | 0,_=>false
 | f+1,j=>match ops[j]? with
  | some o=>o.after.any λe=>Region.binds .any e&&(e.on == i||wB ops i f e.on)
  | none=>false
def apW(ops:Array Oper)(n:Nat):Bool:=(List.range ops.size).all λt=>decide (t+n<ops.size)||(List.range t).all λi=>wB ops i ops.size t
def ab2(N:Nat)(o:Oper):Bool:=(match o.dst with
 | some d=>decide (d<N)
 | none=>true)&&match dW o with
 | some d=>decide (d<N)
 | none=>true
def afm(ops:Array Oper)(i:Nat):Bool:=match ops[i]? with
 | some o=>match dW o with
  | some d=>o.dst.isNone&&(List.range ops.size).all λj=>j == i||match ops[j]? with
   | some oj=>!(oj.looksAt ops).contains d&&(dW oj != some d||(!cZ oj.op&&o.after.any λe=>Region.binds .any e&&e.on == j))
   | none=>true
  | none=>false
 | none=>false
def aY5(obj:Nat->Bool)(o:Oper):Bool:=o.guard.isNone&&match o.op with
 | .call {callee:=.value (.func g),..}=>obj g
 | .call {callee:=.value (.tmp _),args:=args,..}=>args.isEmpty
 | _=>false
def aqI:Operand->Option Nat
 | .tmp t=>some t
 | _=>none
def als(a b c:Oper):Bool:=(a.guard.isNone&&b.guard.isNone&&(c.guard.isNone&&c.dst.isNone))&&match a.op,b.op,c.op,a.dst,b.dst with
 | .call {callee:=.builtin .append,args:=asx,argTypes:=ts},.indexAddr t (.tmp x) i,.store _ (.tmp y) v,some d,some d'=>d == x&&d' == y&&d != d'&&ts.toList == [t,t]&&asx.size == 2&&(aqI i != some d)&&(aqI v != some d&&aqI v != some d')
 | _,_,_,_,_=>false
def awl:Nat->List Oper->Option Nat
 | k,a::b::c::l=>if als a b c=true then some k else awl (k+1) (b::c::l)
 | _,_=>none
def aS6(obj:Nat->Bool)(m:Nat):Nat->List Oper->Option Nat
 | _,[]=>none
 | k,o::l=>if k<m/\aY5 obj o=true then some k else aS6 obj m (k+1) l
def aoc:Op->Bool
 | .move _=>true
 | .load _ _=>true
 | .fieldAddr _ _ _=>true
 | .indexAddr _ _ _=>true
 | .nilCheck _=>true
 | .binOp ..=>true
 | .buildSlice ..=>true
 | .call {callee:=.builtin .len,..}=>true
 | _=>false
def uAt(ops:Array Oper)(i:Nat):Bool:=match ops[i]? with
 | some o=>aoc o.op&&o.guard.isNone
 | none=>false
def agt(ops:Array Oper):List Nat->Array Bool->Bool
 | [],_=>true
 | i::l,listed=>(Region.ready .any ops listed).contains i&&Region.free .any ops listed i&&agt ops l (listed.setIfInBounds i true)
structure Pn where
 c:Option Nat
 pre:List (Nat×Bool)
 mid:List (Nat×Bool)
 m:Nat
 push:Bool
def aeY(ops:Array Oper)(c:Option Nat)(i:Nat):Bool:=match c with
 | some c=>wB ops c ops.size i
 | none=>false
def agw(ops:Array Oper)(c:Option Nat)(i:Nat):Bool:=match c with
 | some c=>wB ops i ops.size c
 | none=>true
def Pn.ord(p:Pn):List Nat:=p.pre.map (·.1)++p.c.toList++p.mid.map (·.1)
def aBb(c n f g:Oper):Bool:=(n.guard.isNone&&f.guard.isNone&&(g.guard.isNone&&g.dst.isNone))&&match n.op,n.dst,f.op,f.dst,g.op with
 | .nilCheck _,some e,.fieldAddr _ (.tmp e1) _,some e',.store _ (.tmp e2) _=>e1 == e&&e2 == e'&&c.op.operands.toList.all λy=>aqI y != some e&&aqI y != some e'
 | _,_,_,_,_=>false
def awk:List Oper->Bool
 | [a,b,c,n,f,g]=>als a b c&&aBb c n f g
 | _=>false
def six(ops:Array Oper)(k:Nat)(l:Array Bool):Bool :=
 let l1:=l.setIfInBounds k true
 let l2:=l1.setIfInBounds (k+1) true
 let l3:=l2.setIfInBounds (k+3) true
 let l4:=l3.setIfInBounds (k+4) true
 let l5:=l4.setIfInBounds (k+2) true
 let l6:=l4.setIfInBounds (k+5) true
 (Region.noSelect ops&&(Region.ready .any ops l == [k]))&&((Region.free .any ops l1 (k+1)&&(Region.ready .any ops l1).contains (k+1))&&(Region.free .any ops l2 (k+3)&&(Region.ready .any ops l2).contains (k+3))) &&
  ((Region.free .any ops l3 (k+4)&&(Region.ready .any ops l3).contains (k+4))&&(Region.ready .any ops l4 == [k+2,k+5])&&((Region.ready .any ops l5 == [k+5])&&(Region.ready .any ops l6 == [k+2])))&&(Region.ready .any ops (l5.setIfInBounds (k+5) true) == [])
def ajU(n k:Nat):Array Bool:=((List.range n).map λi=>decide (i<k)).toArray
def aJw(ops:Array Oper)(m:Nat):Bool:=(List.range ops.size).all λt=>decide (t<m)||(List.range m).all λi=>wB ops i ops.size t
def az2(ops:Array Oper)(m:Nat):Bool->Bool
 | true=>awk (ops.toList.drop m)&&six ops m (ajU ops.size m)
 | false=>apW ops (ops.size-m)
def aGr(ops:Array Oper)(i:Nat):Bool:=match ops[i]? with
 | some o=>o.guard.isNone
 | none=>false
def aBj(ops:Array Oper)(i:Nat):Bool:=match ops[i]? with
 | some o=>!cZ o.op||afm ops i
 | none=>false
def aqF(ops:Array Oper)(p:Pn):Bool :=
 (agt ops (p.ord++(List.range ops.size).drop p.m) (Array.replicate ops.size false)&&aJw ops p.m)&&(decide (p.m<=ops.size)&&decide (p.ord.length=p.m)) &&
 ((((List.range p.m).all λi=>p.ord.contains i)&&p.ord.all λi=>decide (i<p.m)&&aBj ops i)&&((p.pre.map (·.1)++p.mid.map (·.1)).all λi=>some i != p.c)) &&
 ((p.c.toList.all λi=>aGr ops i)&&((p.pre.all λx=>(!x.2||agw ops p.c x.1)&&(agw ops p.c x.1||uAt ops x.1))&&p.mid.all λx=>x.2&&aeY ops p.c x.1)&&az2 ops p.m p.push)
def aK5(l:List Oper):Nat:=(l.reverse.takeWhile λo=>cZ o.op).length
def aLh(ops:Array Oper):Nat:=match awl 0 ops.toList with
 | some k=>k
 | none=>if 2<=aK5 ops.toList then ops.size-aK5 ops.toList else ops.size-1
def aUV(ops:Array Oper)(c:Option Nat)(m:Nat)(b:Bool):Pn :=
 ⟨c,((List.range m).filter λi=>some i != c&&!aeY ops c i).map λi=>(i,agw ops c i),((List.range m).filter λi=>aeY ops c i).map λi=>(i,true),m,b⟩
def aLg(obj:Nat->Bool)(ops:Array Oper):Pn:=aUV ops (aS6 obj (aLh ops) 0 ops.toList) (aLh ops) (awl 0 ops.toList).isSome
def alf(obj:Nat->Bool)(ops:Array Oper):Option Pn:=if aqF ops (aLg obj ops)=true then some (aLg obj ops) else none
def acX:X->Bool
 | .top ..=>false
 | _=>true
def af0(s:S):List Operand->Bool
 | []=>true
 | x::l=>acX (s.ev x)&&af0 s l
def auV(b:Bool):Option (List Nat):=match b with
 | true=>some []
 | false=>none
def ahz:X->Option (List Nat)
 | .of (.ref _)=>some []
 | .ptr r _=>some [r]
 | _=>none
def ajW(s:S):Op->Option (List Nat)
 | .load _ a=>ahz (s.ev a)
 | .call {callee:=.builtin .len,args:=args,..}=>auV (af0 s args.toList)
 | .buildSlice _ _ ps=>auV (af0 s (ps.toList.map (·.2)))
 | .indexAddr _ x _=>auV (af0 s [x])
 | _=>some []
def ldD(s:S)(b:Bool)(o:Op):Option (List Nat):=match b with
 | true=>some []
 | false=>ajW s o
def evA(P:Program)(T:TT)(E:En)(ops:Array Oper):List (Nat×Bool)->List Nat->S->Option (List Nat×S)
 | [],D,s=>some (D,s)
 | x::l,D,s=>match ops[x.1]? with
  | some o=>match ldD s x.2 o.op with
   | some D'=>match bH P T E true ops s x.1 o with
    | some (none,s')=>evA P T E ops l (D'++D) s'
    | _=>none
   | none=>none
  | none=>none
def aS5(obj tk:Nat->Bool)(s:S)(D:List Nat):Option (Nat×List X)->Bool
 | some (g,us)=>obj g&&!tk g&&(fE s.objs 999 (X.refsL us) []).all λr=>!D.contains r
 | none=>false
def aDc(obj tk:Nat->Bool)(s:S)(D:List Nat):Op->Bool
 | .call {callee:=cal,args:=args,..}=>aS5 obj tk s D (aep s cal args.toList)
 | _=>false
def blank(s:S):S:={s with fr:=λ_=>.of .any}
def aiJ:Option (Option X×S)->Option (Option X×S)
 | some (some x,s)=>some (some x,blank s)
 | r=>r
def amu(P:Program)(T:TT)(E:En)(ops:Array Oper)(D:List Nat)(s:S):Option Nat->Option (Option X×S)
 | none=>some (none,s)
 | some c=>match ops[c]? with
  | some o=>if aDc E.obj E.tk s D o.op=true then aiJ (abl P T E false s c o) else none
  | none=>none
def aLe(s:S)(tk:Tk)(e:Nat)(d:TD)(ys:List C)(j:Int):X->Option (X×Option Tk×List Ob)
 | .nil=>if j=0/\d.bytes<=32768 then some (.own tk e d.size ys 1,none,[]) else none
 | .own t e' z cs n=>if e'=e/\z=d.size/\j=(n:Int)/\n+1<=LIM/\d.bytes<=32768 then (if n=0 then some (.top s.objs.length e z,some t,[.row e ys]) else some (.own tk e z (cs++ys) (n+1),some t,[])) else none
 | _=>none
def aBw(T:TT)(s:S)(ix:Nat)(a b c:Oper)(st:Nat)(x y i v:Operand)(ty:Nat):Option S:=match elemOf T st,aaR (s.ev y),aa8 (s.ev i),fW (s.ev v) with
 | some (e,d),some (cs,1),some j,some ys=>if cs.length=d.size/\ys.length=d.size/\0<d.size/\ty=e then match aLe s (.nm s.clk ix 0) e d ys j (s.ev x) with
  | some (z,t,obs)=>if aaQ s.clk a.after.toList t=true then some (({s.drop t with objs:=(s.drop t).objs++obs}:S).put a.dst z |>.put b.dst (.of .any)) else none
  | none=>none
  else none
 | _,_,_,_=>none
def auM(T:TT)(s:S)(ix:Nat)(a b c:Oper):Option S:=match a.op,b.op,c.op with
 | .call {callee:=.builtin .append,args:=asx,argTypes:=ts},.indexAddr st _ i,.store ty _ v=>match asx.toList with
  | [x,y]=>aBw T s ix a b c st x y i v ty
  | _=>none
 | _,_,_=>none
def evT(P:Program)(T:TT)(E:En)(ops:Array Oper)(k:Nat)(s:S)(push:Bool)(l:List Oper):Option (Option X×S):=match push with
 | true=>match l with
  | a::b::c::l=>match auM T s k a b c with
   | some s'=>aaV P T E false ops (k+3) l s'
   | none=>none
  | _=>none
 | false=>aaV P T E false ops k l s
def evP(P:Program)(T:TT)(E:En)(ops:Array Oper)(p:Pn)(s:S):Option (Option X×S):=match evA P T E ops p.pre [] s with
 | some (D,s1)=>match amu P T E ops D s1 p.c with
  | some (none,s2)=>match evA P T E ops p.mid [] s2 with
   | some (_,s3)=>evT P T E ops p.m s3 p.push (ops.toList.drop p.m)
   | none=>none
  | r=>r
 | none=>none
def plB(mt:String->Option Nat->Bool):List Oper->Bool
 | []=>false
 | o::_=>mt o.pos none
def axp(P:Program)(T:TT)(E:En)(ops:Array Oper)(s:S):Option Pn->Option (Option X×S)
 | some p=>evP P T E ops p s
 | none=>none
def evR(P:Program)(T:TT)(E:En)(draw:Bool)(ops:Array Oper)(s:S):Option (Option X×S) :=
 if (draw&&plB E.mt ops.toList)=true then axp P T E ops s (alf E.obj ops)
 else if (draw&&tlB ops.toList)=true then ahG P T E ops 0 ops.toList s
 else if (draw&&!(acr E.obj ops.toList == 0))=true then (evD P T E ops (acr E.obj ops.toList) 0 false ops.toList s).map λs=>(none,s)
 else if (draw&&spB E.obj ops.toList)=true then amr P T E ops ops.toList s else aaV P T E draw ops 0 ops.toList s
def aqR(o:Oper):Bool:=match o.op,o.guard with
 | .extract _ _,none=>true
 | _,_=>false
def alp(ops:Array Oper)(i:Nat):Bool:=match ops[i]?,ops[ops.size-1]? with
 | some o,some l=>aqR o&&match dW l with
  | some d=>!(o.looksAt ops).contains d&&o.dst != some d
  | none=>true
 | _,_=>false
def anx(ops:Array Oper):Bool:=(List.range (ops.size-1)).all λi=>alp ops i||(List.range ops.size).any λk=>decide (i<k)&&match ops[k]? with
 | some o=>!aqR o&&o.after.any λe=>Region.binds .any e&&e.on == i
 | none=>false
inductive Ex where
 | normal
 | exit (id:Nat)
 | ret
 | pan (x:X)
def ael(xs:List X)(obs:List Ob):S:={fr:=λj=>xs.getD j (.of .undef),objs:=obs,clk:=1}
def acb(T:TT)(s:S):List ResultVar->Option (List X)
 | []=>some []
 | .tmp t::r=>(acb T s r).map (s.fr t::·)
 | .cell a t::r=>match abf T s.objs t (s.fr a),acb T s r with
  | some (x,_),some q=>some (x::q)
  | _,_=>none
def ad1(m:Nat)(pan:Bool)(rs:List X)(objs:List Ob):Option An :=
 let refs:=fE objs 999 (X.refsL rs++((objs.take m).map Ob.refs).flatten) (List.range m)
 let ts:=(nub (X.toksL rs) []).filter λt=>match t with
  | .nm ..=>true
  | .cell r _=>!decide (r∈refs)
 (abj (pos refs) (abc refs ts) objs refs).map λobs=>⟨pan,X.trs (pos refs) (abc refs ts) rs,obs⟩
def ajG(ops:Array Oper):Bool:=(List.range ops.size).all λi=>match ops[i]? with
 | some o=>!cZ o.op||(aaO ops.toList&&i+1 == ops.size)||afm ops i
 | none=>true
def ak9(ops:Array Oper)(k j:Nat):Bool:=match ops[k]? with
 | some o=>o.after.any λe=>Region.binds .any e&&e.on == j
 | none=>false
def awX(ops:Array Oper)(i m:Nat):Bool:=match ops[i]?,ops[m]? with
 | some o,some l=>(opK o.op == 4&&o.guard.isNone)&&match dW l with
  | some d=>!(o.looksAt ops).contains d&&o.dst != some d
  | none=>true
 | _,_=>false
def ajF(ops:Array Oper):Bool:=((List.range (ops.size-2)).all λi=>(match ops[i]? with
 | some o=>!cZ o.op
 | none=>true)&&(ak9 ops (ops.size-2) i||awX ops i (ops.size-2)))&&(List.range (ops.size-1)).all λj=>ak9 ops (ops.size-1) j
def aCc:Op->Bool
 | .call {callee:=.value (.func _),args:=args,..}=>args.isEmpty
 | _=>false
def apN:Op->Bool
 | .lookup ..=>true
 | _=>false
def opP(ops:Array Oper)(p:Op->Bool)(i:Nat):Bool:=match ops[i]? with
 | some o=>p o.op
 | none=>false
def aqS(ops:Array Oper):Bool:=(List.range ops.size).all λm=>!opP ops aCc m||(List.range ops.size).all λj=>!opP ops apN j||wB ops m ops.size j
def aBM(mt:String->Option Nat->Bool)(N:Nat)(ops:Array Oper)(draw:Bool):Bool:=ops.all (ab2 N)&&(!draw||plB mt ops.toList||(Region.lexB .any ops&&(apW ops (acr (λ_=>true) ops.toList)&&aqS ops)&&if tlB ops.toList then ajF ops else ajG ops&&(!aaO ops.toList||anx ops)))
def aar(mt:String->Option Nat->Bool)(N:Nat):Code->Bool
 | .region _ ops draw=>aBM mt N ops draw
 | .seq a b=>aar mt N a&&aar mt N b
 | .cond _ a b=>aar mt N a&&aar mt N b
 | .block _ c=>aar mt N c
 | .loop c=>aar mt N c
 | .scope c=>aar mt N c
 | _=>true
def anL(P:Program)(f:Nat):Code:=match P.funcs[f]? with
 | some fn=>fn.body.getD .skip
 | none=>.skip
def arw(P:Program)(f:Nat):Nat:=match P.funcs[f]? with
 | some fn=>fn.ntmps
 | none=>0
def acJ(P:Program)(f:Nat):List ResultVar:=match P.funcs[f]? with
 | some fn=>fn.results.toList
 | none=>[]
def asq(mt:String->Option Nat->Bool)(P:Program)(f:Nat):Bool:=match P.funcs[f]? with
 | some fn=>fn.body.isSome&&aar mt fn.ntmps (fn.body.getD .skip)
 | none=>false
structure Pr where
 prim:Orc
 obj:Nat->Bool
 tk:Nat->Bool
 keep:Nat->Bool
 mt:String->Option Nat->Bool
def aqp(x:X):Option C->X
 | some c=>.of c
 | none=>x
def ai7(x:X):X:=aqp x x.rd
def af9(keep:Bool)(rs:List X):List X:=match keep with
 | true=>rs
 | false=>rs.map ai7
def alx(P:Program)(T:TT)(mt:String->Option Nat->Bool)(keep:Nat->Bool)(run:Code->S->Option (Ex×S))(f:Nat)(xs:List X)(obs:List Ob):Option An :=
 if asq mt P f=true/\xs.length<=arw P f then match run (anL P f) (ael xs obs) with
  | some (.normal,s)=>(acb T s (acJ P f)).bind λrs=>ad1 obs.length false (af9 (keep f) rs) s.objs
  | some (.ret,s)=>(acb T s (acJ P f)).bind λrs=>ad1 obs.length false (af9 (keep f) rs) s.objs
  | some (.pan x,s)=>ad1 obs.length true [x] s.objs
  | _=>none
 else none
def aom(P:Program)(T:TT)(pr:Pr)(run:Code->S->Option (Ex×S)):Orc:=λf xs obs =>
 match pr.prim f xs obs with
 | some r=>some r
 | none=>alx P T pr.mt pr.keep run f xs obs
def aig(P:Program)(T:TT)(pr:Pr)(run:Code->S->Option (Ex×S)):En:=⟨aom P T pr run,pr.obj,pr.tk,pr.mt⟩
def evC(P:Program)(T:TT)(pr:Pr):Nat->Code->S->Option (Ex×S)
 | 0,_,_=>none
 | n+1,c,s=>match c with
  | .skip=>some (.normal,s)
  | .ret=>some (.ret,s)
  | .exit i=>some (.exit i,s)
  | .seq a b=>match evC P T pr n a s with
   | some (.normal,s')=>evC P T pr n b s'
   | r=>r
  | .block i c=>match evC P T pr n c s with
   | some (.exit j,s')=>some (if j=i then .normal else .exit j,s')
   | r=>r
  | .cond c a b=>match adk (s.ev c) with
   | some true=>evC P T pr n a s
   | some false=>evC P T pr n b s
   | none=>none
  | .loop c=>match evC P T pr n c s with
   | some (.normal,s')=>evC P T pr n (.loop c) s'
   | r=>r
  | .scope c=>evC P T pr n c s
  | .label _=>some (.normal,s)
  | .region _ ops draw=>match evR P T (aig P T pr (evC P T pr n)) draw ops s with
   | some (none,s')=>some (.normal,{s' with clk:=s'.clk+1})
   | some (some x,s')=>some (.pan x,{s' with clk:=s'.clk+1})
   | none=>none
  | _=>none
end Go.Pe
namespace Go.Pe
open RowKit
abbrev Mem:=Nat->Nat->Option Value
mutual
def Rep(m:Mem):C->Value->Prop
 | .any,_=>True
 | .undef,v=>v=undef
 | .lit u,v=>v=u/\u.oneCell'=true
 | .sl cs n,v=>∃ a cap vs,v=.slice a n cap/\n<=cap/\bA m cs vs/\(vs≠[]->∃ b o,a=some ⟨b,o,none⟩/\∀ i u,vs[i]?=some u->m b (o+i)=some u)
 | .ref cs,v=>∃ b o vs,v=.pointer (some ⟨b,o,none⟩)/\bA m cs vs/\∀ i u,vs[i]?=some u->m b (o+i)=some u
 | .fn f caps,v=>∃ vs:List Value,v=.func (.func f) #[] vs.toArray/\bA m caps vs
 | .agg cs,v=>∃ vs:List Value,v=.agg vs.toArray/\(∀ u∈vs,u.oneCell'=true)/\bA m cs vs
 | .tup cs,v=>∃ vs:List Value,v=.tuple vs.toArray/\bA m cs vs
 | .ifc t c,v=>∃ u,v=.iface t u/\Rep m c u
def bA(m:Mem):List C->List Value->Prop
 | [],vs=>vs=[]
 | c::cs,vs=>∃ v r,vs=v::r/\Rep m c v/\bA m cs r
end
def Mem.le(m m':Mem):Prop:=∀ b o v,m b o=some v->m' b o=some v
theorem Mem.le_refl(m:Mem):m.le m:=λ_ _ _ h=>h
theorem Mem.le_trans{a b c:Mem}(h:a.le b)(h':b.le c):a.le c:=λ_ _ _ x=>h' _ _ _ (h _ _ _ x)
theorem Rep.mono{m m':Mem}(h:m.le m'):∀ (c:C) (v:Value),Rep m c v->Rep m' c v :=
 C.rec (motive_1:=λc=>∀ v,Rep m c v->Rep m' c v) (motive_2:=λcs=>∀ vs,bA m cs vs->bA m' cs vs)
  (λ_ _=>by simp[Rep]) (λ_ h=>by simpa [Rep] using h) (λ_ _ h=>by simpa [Rep] using h)
  (λcs n ih v=>by
   simp only[Rep]
   rintro⟨a,cap,vs,rfl,hn,hl,hm⟩
   exact⟨a,cap,vs,rfl,hn,ih _ hl,λhne=>by
    obtain⟨b,o,ha,hc⟩:=hm hne
    exact⟨b,o,ha,λi u hu=>h _ _ _ (hc i u hu)⟩⟩)
  (λcs ih v=>by
   simp only[Rep]
   rintro⟨b,o,vs,rfl,hl,hm⟩
   exact⟨b,o,vs,rfl,ih _ hl,λi u hu=>h _ _ _ (hm i u hu)⟩)
  (λf cs ih v=>by simp only[Rep];rintro⟨vs,rfl,hl⟩;exact⟨vs,rfl,ih _ hl⟩)
  (λcs ih v=>by simp only[Rep];rintro⟨vs,rfl,h1,hl⟩;exact⟨vs,rfl,h1,ih _ hl⟩)
  (λcs ih v=>by simp only[Rep];rintro⟨vs,rfl,hl⟩;exact⟨vs,rfl,ih _ hl⟩)
  (λt c ih v=>by simp only[Rep];rintro⟨u,rfl,h⟩;exact⟨u,rfl,ih _ h⟩)
  (λvs h=>by simpa [bA] using h)
  (λc cs ih1 ih2 vs=>by simp only[bA];rintro⟨v,r,rfl,h1,h2⟩;exact⟨v,r,rfl,ih1 _ h1,ih2 _ h2⟩)
theorem bA.mono{m m':Mem}(h:m.le m'):∀ (cs:List C) (vs:List Value),bA m cs vs->bA m' cs vs
 | [],vs,hh=>by simpa [bA] using hh
 | c::cs,vs,hh=>by
  simp only[bA] at hh ⊢
  obtain⟨v,r,rfl,h1,h2⟩:=hh
  exact⟨v,r,rfl,Rep.mono h _ _ h1,bA.mono h _ _ h2⟩
theorem bA.length{m:Mem}:∀ {cs:List C} {vs:List Value},bA m cs vs->vs.length=cs.length
 | [],vs,h=>by simp only[bA] at h;simp[h]
 | c::cs,vs,h=>by
  simp only[bA] at h
  obtain⟨v,r,rfl,_,h2⟩:=h
  simp[bA.length h2]
theorem bA.get{m:Mem}:∀ {cs:List C} {vs:List Value},bA m cs vs->∀ (i:Nat) (c:C),cs[i]?=some c->∃ v,vs[i]?=some v/\Rep m c v
 | [],vs,h,i,c,hc=>by simp at hc
 | d::cs,vs,h,i,c,hc=>by
  simp only[bA] at h
  obtain⟨v,r,rfl,h1,h2⟩:=h
  cases i with
  | zero=>simp at hc;subst hc;exact⟨v,by simp,h1⟩
  | succ i=>simp at hc;simpa using bA.get h2 i c hc
theorem bA.drop{m:Mem}:∀ (k:Nat) {cs:List C} {vs:List Value},bA m cs vs->bA m (cs.drop k) (vs.drop k)
 | 0,cs,vs,h=>by simpa using h
 | k+1,[],vs,h=>by simp only[bA] at h;subst h;simp[bA]
 | k+1,c::cs,vs,h=>by
  simp only[bA] at h
  obtain⟨v,r,rfl,_,h2⟩:=h
  simpa using bA.drop k h2
theorem bA.take{m:Mem}:∀ (k:Nat) {cs:List C} {vs:List Value},bA m cs vs->bA m (cs.take k) (vs.take k)
 | 0,cs,vs,h=>by simp[bA]
 | k+1,[],vs,h=>by simp only[bA] at h;subst h;simp[bA]
 | k+1,c::cs,vs,h=>by
  simp only[bA] at h
  obtain⟨v,r,rfl,h1,h2⟩:=h
  simp only[acc,bA]
  exact⟨v,r.take k,rfl,h1,bA.take k h2⟩
theorem bA.append{m:Mem}:∀ {cs ds:List C} {vs us:List Value},bA m cs vs->bA m ds us->bA m (cs++ds) (vs++us)
 | [],ds,vs,us,h,h'=>by simp only[bA] at h;subst h;simpa using h'
 | c::cs,ds,vs,us,h,h'=>by
  simp only[bA] at h
  obtain⟨v,r,rfl,h1,h2⟩:=h
  simp only[eI,bA]
  exact⟨v,r++us,rfl,h1,bA.append h2 h'⟩
abbrev Own:=Tk->Option (Value×Nat×Nat×Nat)
structure Know where
 m:Mem
 μ:Nat->Option Nat
mutual
def aL(k:Know)(ow:Own):X->Value->Prop
 | .of c,v=>Rep k.m c v
 | .nil,v=>v=.slice none 0 0
 | .own t e z cs n,v=>ow t=some (v,e,z,n)/\cs.length=n*z/\Rep k.m (.sl cs n) v
 | .ptr r off,v=>∃ b,k.μ r=some b/\v=.pointer (some ⟨b,off,none⟩)
 | .mp r,v=>∃ b,k.μ r=some b/\v=.map (some b)
 | .clo f caps,v=>∃ vs:List Value,v=(if f % 2=0 then .func (.func (f / 2)) #[] vs.toArray else .func (.func (f / 2)) vs.toArray #[])/\aV k ow caps vs
 | .agg xs,v=>∃ vs:List Value,v=.agg vs.toArray/\(∀ u∈vs,u.oneCell'=true)/\aV k ow xs vs
 | .tup xs,v=>∃ vs:List Value,v=.tuple vs.toArray/\aV k ow xs vs
 | .nw none _ _,_=>True
 | .nw (some t) ty z,v=>∃ b,v=.pointer (some ⟨b,0,none⟩)/\ow t=some (.slice (some ⟨b,0,none⟩) 0 1,ty,z,0)
 | .top r e z,v=>ow (abw r)=some (v,e,z,1)/\∃ b cap,k.μ r=some b/\v=.slice (some ⟨b,0,none⟩) 1 cap
def aV(k:Know)(ow:Own):List X->List Value->Prop
 | [],vs=>vs=[]
 | x::xs,vs=>∃ v r,vs=v::r/\aL k ow x v/\aV k ow xs r
end
def Know.le(k k':Know):Prop:=k.m.le k'.m/\∀ r b,k.μ r=some b->k'.μ r=some b
theorem Know.le_refl(k:Know):k.le k:=⟨λ_ _ _ h=>h,λ_ _ h=>h⟩
theorem Know.le_trans{a b c:Know}(h:a.le b)(h':b.le c):a.le c:=⟨Mem.le_trans h.1 h'.1,λ_ _ x=>h'.2 _ _ (h.2 _ _ x)⟩
def Own.sub(ow ow':Own):Prop:=∀ t p,ow t=some p->ow' t=some p
theorem aL.mono{k k':Know}{ow ow':Own}(h:k.le k')(ho:ow.sub ow'):∀ (x:X) (v:Value),aL k ow x v->aL k' ow' x v :=
 X.rec (motive_1:=λx=>∀ v,aL k ow x v->aL k' ow' x v) (motive_2:=λxs=>∀ vs,aV k ow xs vs->aV k' ow' xs vs)
  (λc v hh=>by simp only[aL] at hh ⊢;exact Rep.mono h.1 _ _ hh)
  (λv hh=>by simpa only [aL] using hh)
  (λt e z cs n v hh=>by simp only[aL] at hh ⊢;exact⟨ho _ _ hh.1,hh.2.1,Rep.mono h.1 _ _ hh.2.2⟩)
  (λr off v hh=>by simp only[aL] at hh ⊢;obtain⟨b,hb,hv⟩:=hh;exact⟨b,h.2 _ _ hb,hv⟩)
  (λr v hh=>by simp only[aL] at hh ⊢;obtain⟨b,hb,hv⟩:=hh;exact⟨b,h.2 _ _ hb,hv⟩)
  (λf xs ih v hh=>by simp only[aL] at hh ⊢;obtain⟨vs,hv,hl⟩:=hh;exact⟨vs,hv,ih _ hl⟩)
  (λxs ih v hh=>by simp only[aL] at hh ⊢;obtain⟨vs,hv,h1,hl⟩:=hh;exact⟨vs,hv,h1,ih _ hl⟩)
  (λxs ih v hh=>by simp only[aL] at hh ⊢;obtain⟨vs,hv,hl⟩:=hh;exact⟨vs,hv,ih _ hl⟩)
  (λo ty z v hh=>by
   cases o with
   | none=>simp[aL]
   | some t=>simp only[aL] at hh ⊢;obtain⟨b,hv,hl⟩:=hh;exact⟨b,hv,ho _ _ hl⟩)
  (λr e z v hh=>by simp only[aL] at hh ⊢;obtain⟨h1,b,cap,hb,hv⟩:=hh;exact⟨ho _ _ h1,b,cap,h.2 _ _ hb,hv⟩)
  (λvs hh=>by simpa only [aV] using hh)
  (λx xs ih1 ih2 vs hh=>by simp only[aV] at hh ⊢;obtain⟨v,r,hv,h1,h2⟩:=hh;exact⟨v,r,hv,ih1 _ h1,ih2 _ h2⟩)
theorem aV.mono{k k':Know}{ow ow':Own}(h:k.le k')(ho:ow.sub ow'):∀ (xs:List X) (vs:List Value),aV k ow xs vs->aV k' ow' xs vs
 | [],vs,hh=>by simpa only [aV] using hh
 | x::xs,vs,hh=>by
  simp only[aV] at hh ⊢
  obtain⟨v,r,hv,h1,h2⟩:=hh
  exact⟨v,r,hv,aL.mono h ho _ _ h1,aV.mono h ho _ _ h2⟩
def Own.del(ow:Own)(t:Tk):Own:=λt'=>if t'=t then none else ow t'
theorem aL.drop{k:Know}{ow:Own}(t:Tk)(hrow:t.isRow=false):∀ (x:X) (v:Value),aL k ow x v->aL k (ow.del t) (x.drop t) v :=
 X.rec (motive_1:=λx=>∀ v,aL k ow x v->aL k (ow.del t) (x.drop t) v) (motive_2:=λxs=>∀ vs,aV k ow xs vs->aV k (ow.del t) (X.drops t xs) vs)
  (λc v hh=>by simpa only [X.drop,aL] using hh)
  (λv hh=>by simpa only [X.drop,aL] using hh)
  (λt' e z cs n v hh=>by
   simp only[X.drop]
   split
   .simp only[aL] at hh ⊢;exact hh.2.2
   .rename_i hne
    simp only[aL] at hh ⊢
    exact⟨by simp only[Own.del,hne,ap];exact hh.1,hh.2⟩)
  (λr off v hh=>by simpa only [X.drop,aL] using hh)
  (λr v hh=>by simpa only [X.drop,aL] using hh)
  (λf xs ih v hh=>by simp only[X.drop,aL] at hh ⊢;obtain⟨vs,hv,hl⟩:=hh;exact⟨vs,hv,ih _ hl⟩)
  (λxs ih v hh=>by simp only[X.drop,aL] at hh ⊢;obtain⟨vs,hv,h1,hl⟩:=hh;exact⟨vs,hv,h1,ih _ hl⟩)
  (λxs ih v hh=>by simp only[X.drop,aL] at hh ⊢;obtain⟨vs,hv,hl⟩:=hh;exact⟨vs,hv,ih _ hl⟩)
  (λo ty z v hh=>by
   cases o with
   | none=>simp[X.drop,af5,aL]
   | some t' =>
    simp only[X.drop,af5]
    split
    .simp[aL]
    .rename_i hne
     simp only[aL] at hh ⊢
     obtain⟨b,hv,hl⟩:=hh
     exact⟨b,hv,by simp only[Own.del,hne,ap];exact hl⟩)
  (λr e z v hh=>by
   have hne:¬ abw r=t:=λe=>by subst e;simp[Tk.isRow] at hrow
   simp only[X.drop,aL] at hh ⊢
   exact⟨by simp only[Own.del,hne,ap];exact hh.1,hh.2⟩)
  (λvs hh=>by simpa only [X.drops,aV] using hh)
  (λx xs ih1 ih2 vs hh=>by simp only[X.drops,aV] at hh ⊢;obtain⟨v,r,hv,h1,h2⟩:=hh;exact⟨v,r,hv,ih1 _ h1,ih2 _ h2⟩)
theorem aV.drop{k:Know}{ow:Own}(t:Tk)(hrow:t.isRow=false):∀ (xs:List X) (vs:List Value),aV k ow xs vs->aV k (ow.del t) (X.drops t xs) vs
 | [],vs,hh=>by simpa only [X.drops,aV] using hh
 | x::xs,vs,hh=>by
  simp only[X.drops,aV] at hh ⊢
  obtain⟨v,r,hv,h1,h2⟩:=hh
  exact⟨v,r,hv,aL.drop t hrow _ _ h1,aV.drop t hrow _ _ h2⟩
theorem aV.length{k:Know}{ow:Own}:∀ {xs:List X} {vs:List Value},aV k ow xs vs->vs.length=xs.length
 | [],vs,h=>by simp only[aV] at h;simp[h]
 | c::cs,vs,h=>by
  simp only[aV] at h
  obtain⟨v,r,rfl,_,h2⟩:=h
  simp[aV.length h2]
theorem aV.get{k:Know}{ow:Own}:∀ {xs:List X} {vs:List Value},aV k ow xs vs->∀ (i:Nat) (x:X),xs[i]?=some x->∃ v,vs[i]?=some v/\aL k ow x v
 | [],vs,h,i,c,hc=>by simp at hc
 | d::cs,vs,h,i,c,hc=>by
  simp only[aV] at h
  obtain⟨v,r,rfl,h1,h2⟩:=h
  cases i with
  | zero=>simp at hc;subst hc;exact⟨v,by simp,h1⟩
  | succ i=>simp at hc;simpa using aV.get h2 i c hc
theorem aV.dropN{k:Know}{ow:Own}:∀ (n:Nat) {xs:List X} {vs:List Value},aV k ow xs vs->aV k ow (xs.drop n) (vs.drop n)
 | 0,cs,vs,h=>by simpa using h
 | n+1,[],vs,h=>by simp only[aV] at h;subst h;simp[aV]
 | n+1,c::cs,vs,h=>by
  simp only[aV] at h
  obtain⟨v,r,rfl,_,h2⟩:=h
  simpa using aV.dropN n h2
theorem aV.takeN{k:Know}{ow:Own}:∀ (n:Nat) {xs:List X} {vs:List Value},aV k ow xs vs->aV k ow (xs.take n) (vs.take n)
 | 0,cs,vs,h=>by simp[aV]
 | n+1,[],vs,h=>by simp only[aV] at h;subst h;simp[aV]
 | n+1,c::cs,vs,h=>by
  simp only[aV] at h
  obtain⟨v,r,rfl,h1,h2⟩:=h
  simp only[acc,aV]
  exact⟨v,r.take n,rfl,h1,aV.takeN n h2⟩
theorem aV.append{k:Know}{ow:Own}:∀ {cs ds:List X} {vs us:List Value},aV k ow cs vs->aV k ow ds us->aV k ow (cs++ds) (vs++us)
 | [],ds,vs,us,h,h'=>by simp only[aV] at h;subst h;simpa using h'
 | c::cs,ds,vs,us,h,h'=>by
  simp only[aV] at h
  obtain⟨v,r,rfl,h1,h2⟩:=h
  simp only[eI,aV]
  exact⟨v,r++us,rfl,h1,aV.append h2 h'⟩
theorem aV.of{k:Know}{ow:Own}:∀ {cs:List C} {vs:List Value},bA k.m cs vs->aV k ow (cs.map .of) vs
 | [],vs,h=>by simpa [bA,aV] using h
 | c::cs,vs,h=>by
  simp only[bA] at h
  obtain⟨v,r,rfl,h1,h2⟩:=h
  simp only[bd,aV,aL]
  exact⟨v,r,rfl,h1,aV.of h2⟩
def afW{k:Know}{ow:Own}:∀ (x:X) (c:C) (v:Value),x.rd=some c->aL k ow x v->Rep k.m c v :=
 X.rec (motive_1:=λx=>∀ c v,x.rd=some c->aL k ow x v->Rep k.m c v) (motive_2:=λxs=>∀ cs vs,X.rds xs=some cs->aV k ow xs vs->bA k.m cs vs)
  (λc c' v hr hh=>by simp only[X.rd,ae] at hr;subst hr;simpa only [aL] using hh)
  (λc' v hr hh=>by
   simp only[X.rd,ae] at hr
   subst hr
   simp only[aL] at hh
   subst hh
   simp only[Rep]
   exact⟨none,0,[],rfl,am _,by simp[bA],λh=>absurd rfl h⟩)
  (λt e z cs n c' v hr hh=>by
   simp only[X.rd,ae] at hr
   subst hr
   simp only[aL] at hh
   exact hh.2.2)
  (λr off c' v hr hh=>by simp[X.rd] at hr)
  (λr c' v hr hh=>by simp[X.rd] at hr)
  (λf xs ih c' v hr hh=>by simp[X.rd] at hr)
  (λxs ih c' v hr hh=>by
   simp only[X.rd,ay] at hr
   obtain⟨cs,hcs,rfl⟩:=hr
   simp only[aL] at hh
   obtain⟨vs,rfl,h1,hl⟩:=hh
   simp only[Rep]
   exact⟨vs,rfl,h1,ih _ _ hcs hl⟩)
  (λxs ih c' v hr hh=>by simp[X.rd] at hr)
  (λt ty z c' v hr hh=>by simp[X.rd] at hr)
  (λr e z c' v hr hh=>by simp[X.rd] at hr)
  (λcs vs hr hh=>by
   simp only[X.rds,ae] at hr
   subst hr
   simpa only [aV,bA] using hh)
  (λx xs ih1 ih2 cs vs hr hh=>by
   simp only[X.rds] at hr
   split at hr
   .rename_i c cs' h1 h2
    simp only[ae] at hr
    subst hr
    simp only[aV] at hh
    obtain⟨v,r,rfl,hv,hl⟩:=hh
    simp only[bA]
    exact⟨v,r,rfl,ih1 _ _ h1 hv,ih2 _ _ h2 hl⟩
   .cases hr)
theorem ajK{k:Know}{ow:Own}:∀ (xs:List X) (cs:List C) (vs:List Value),X.rds xs=some cs->aV k ow xs vs->bA k.m cs vs
 | [],cs,vs,hr,hh=>by
  simp only[X.rds,ae] at hr
  subst hr
  simpa only [aV,bA] using hh
 | x::xs,cs,vs,hr,hh=>by
  simp only[X.rds] at hr
  split at hr
  .rename_i c cs' h1 h2
   simp only[ae] at hr
   subst hr
   simp only[aV] at hh
   obtain⟨v,r,rfl,hv,hl⟩:=hh
   simp only[bA]
   exact⟨v,r,rfl,afW _ _ _ h1 hv,ajK _ _ _ h2 hl⟩
  .cases hr
def aeJ{k:Know}{ow:Own}{x:X}{xs:List X}{v:Value}(hc:cJ x=some xs)(h:aL k ow x v) :
  aV k ow xs v.cells.toList/\∀ u∈v.cells.toList,u.oneCell'=true:=by
 have single:∀ (x:X),aL k ow x v->v.oneCell'=true->aV k ow [x] v.cells.toList/\∀ u∈v.cells.toList,u.oneCell'=true:=by
  intro x hx h1
  have:v.cells=#[v]:=by cases v <;> simp_all [Value.cells,Value.oneCell']
  rw[this]
  simp only[aV]
  exact⟨⟨v,[],rfl,hx,rfl⟩,by simpa using h1⟩
 cases x with
 | of c =>
  cases c with
  | any=>simp[cJ] at hc
  | undef=>simp[cJ] at hc
  | tup cs=>simp[cJ] at hc
  | agg cs =>
   simp only[cJ,ae] at hc
   subst hc
   simp only[aL,Rep] at h
   obtain⟨vs,rfl,h1,hl⟩:=h
   exact⟨by simpa [Value.cells] using aV.of hl,by simpa [Value.cells] using h1⟩
  | ifc t c =>
   simp only[cJ,ae] at hc
   subst hc
   exact single _ h (by simp only[aL,Rep] at h;obtain⟨u,rfl,_⟩:=h;rfl)
  | lit u =>
   simp only[cJ,ae] at hc
   subst hc
   exact single _ h (by simp only[aL,Rep] at h;rw[h.1];exact h.2)
  | sl cs n =>
   simp only[cJ,ae] at hc
   subst hc
   exact single _ h (by simp only[aL,Rep] at h;obtain⟨a,cap,vs,rfl,_⟩:=h;rfl)
  | ref cs =>
   simp only[cJ,ae] at hc
   subst hc
   exact single _ h (by simp only[aL,Rep] at h;obtain⟨a,cap,vs,rfl,_⟩:=h;rfl)
  | fn f cs =>
   simp only[cJ,ae] at hc
   subst hc
   exact single _ h (by simp only[aL,Rep] at h;obtain⟨vs,rfl,_⟩:=h;rfl)
 | nil =>
  simp only[cJ,ae] at hc
  subst hc
  exact single _ h (by simp only[aL] at h;subst h;rfl)
 | own t e z cs n =>
  simp only[cJ,ae] at hc
  subst hc
  exact single _ h (by simp only[aL,Rep] at h;obtain⟨_,_,a,cap,vs,rfl,_⟩:=h;rfl)
 | ptr r off =>
  simp only[cJ,ae] at hc
  subst hc
  exact single _ h (by simp only[aL] at h;obtain⟨b,_,rfl⟩:=h;rfl)
 | mp r =>
  simp only[cJ,ae] at hc
  subst hc
  exact single _ h (by simp only[aL] at h;obtain⟨b,_,rfl⟩:=h;rfl)
 | clo f caps =>
  simp only[cJ,ae] at hc
  subst hc
  exact single _ h (by simp only[aL] at h;obtain⟨b,rfl,_⟩:=h;split <;> rfl)
 | agg xs =>
  simp only[cJ,ae] at hc
  subst hc
  simp only[aL] at h
  obtain⟨vs,rfl,h1,hl⟩:=h
  exact⟨by simpa [Value.cells] using hl,by simpa [Value.cells] using h1⟩
 | tup xs=>simp[cJ] at hc
 | nw t ty z=>simp[cJ] at hc
 | top r e z =>
  simp only[cJ,ae] at hc
  subst hc
  exact single _ h (by simp only[aL] at h;obtain⟨_,b,cap,_,rfl⟩:=h;rfl)
structure Ren (σ:Nat->Option Nat) (ρ:Tk->Option Tk) (k k':Know) (ow ow':Own):Prop where
 m:k.m.le k'.m
 μ:∀ r b r',k.μ r=some b->σ r=some r'->k'.μ r'=some b
 ow:∀ t p t',ow t=some p->ρ t=some t'->ow' t'=some p
theorem aL.tr{σ:Nat->Option Nat}{ρ:Tk->Option Tk}{k k':Know}{ow ow':Own}(h:Ren σ ρ k k' ow ow'):∀ (x:X) (v:Value),aL k ow x v->aL k' ow' (x.tr σ ρ) v :=
 X.rec (motive_1:=λx=>∀ v,aL k ow x v->aL k' ow' (x.tr σ ρ) v) (motive_2:=λxs=>∀ vs,aV k ow xs vs->aV k' ow' (X.trs σ ρ xs) vs)
  (λc v hh=>by simp only[aL,X.tr] at hh ⊢;exact Rep.mono h.m _ _ hh)
  (λv hh=>by simpa only [aL,X.tr] using hh)
  (λt e z cs n v hh=>by
   simp only[aL,X.tr] at hh ⊢
   split
   .rename_i t' ht
    simp only[aL]
    exact⟨h.ow _ _ _ hh.1 ht,hh.2.1,Rep.mono h.m _ _ hh.2.2⟩
   .simp only[aL];exact Rep.mono h.m _ _ hh.2.2)
  (λr off v hh=>by
   simp only[aL,X.tr] at hh ⊢
   obtain⟨b,hb,hv⟩:=hh
   split
   .rename_i r' hr;simp only[aL];exact⟨b,h.μ _ _ _ hb hr,hv⟩
   .simp[aL,Rep])
  (λr v hh=>by
   simp only[aL,X.tr] at hh ⊢
   obtain⟨b,hb,hv⟩:=hh
   split
   .rename_i r' hr;simp only[aL];exact⟨b,h.μ _ _ _ hb hr,hv⟩
   .simp[aL,Rep])
  (λf xs ih v hh=>by simp only[aL,X.tr] at hh ⊢;obtain⟨vs,hv,hl⟩:=hh;exact⟨vs,hv,ih _ hl⟩)
  (λxs ih v hh=>by simp only[aL,X.tr] at hh ⊢;obtain⟨vs,hv,h1,hl⟩:=hh;exact⟨vs,hv,h1,ih _ hl⟩)
  (λxs ih v hh=>by simp only[aL,X.tr] at hh ⊢;obtain⟨vs,hv,hl⟩:=hh;exact⟨vs,hv,ih _ hl⟩)
  (λo ty z v hh=>by
   cases o with
   | none=>simp[X.tr,aL]
   | some t =>
    simp only[aL] at hh
    obtain⟨b,hv,hl⟩:=hh
    show aL k' ow' (.nw (ρ t) ty z) v
    cases ht:ρ t with
    | none=>simp[aL]
    | some t'=>simp only[aL];exact⟨b,hv,h.ow _ _ _ hl ht⟩)
  (λr e z v hh=>by
   simp only[aL] at hh
   obtain⟨h1,b,cap,hb,hv⟩:=hh
   simp only[X.tr]
   split
   .rename_i r' hr
    split
    .rename_i ht
     simp only[aL]
     exact⟨h.ow _ _ _ h1 ht,b,cap,h.μ _ _ _ hb hr,hv⟩
    .simp[aL,Rep]
   .simp[aL,Rep])
  (λvs hh=>by simpa only [aV,X.trs] using hh)
  (λx xs ih1 ih2 vs hh=>by simp only[aV,X.trs] at hh ⊢;obtain⟨v,r,hv,h1,h2⟩:=hh;exact⟨v,r,hv,ih1 _ h1,ih2 _ h2⟩)
theorem aV.tr{σ:Nat->Option Nat}{ρ:Tk->Option Tk}{k k':Know}{ow ow':Own}(h:Ren σ ρ k k' ow ow'):∀ (xs:List X) (vs:List Value),aV k ow xs vs->aV k' ow' (X.trs σ ρ xs) vs
 | [],vs,hh=>by simpa only [aV,X.trs] using hh
 | x::xs,vs,hh=>by
  simp only[aV,X.trs] at hh ⊢
  obtain⟨v,r,hv,h1,h2⟩:=hh
  exact⟨v,r,hv,aL.tr h _ _ h1,aV.tr h _ _ h2⟩
theorem ads{α:Type}[DecidableEq α]:∀ {l:List α} {a:α} {i:Nat},pos l a=some i->l[i]?=some a
 | [],a,i,h=>by simp[pos] at h
 | b::l,a,i,h=>by
  simp only[pos] at h
  split at h
  .rename_i e
   simp only[ae] at h
   subst h;subst e
   rfl
  .simp only[ay] at h
   obtain⟨j,hj,rfl⟩:=h
   simpa using ads hj
theorem apz{α:Type}[DecidableEq α]:∀ {l:List α} {a:α},pos l a=none->a∉l
 | [],a,_=>by simp
 | b::l,a,h=>by
  simp only[pos] at h
  split at h
  .cases h
  .rename_i e
   simp only[Option.map_eq_none_iff] at h
   have:=apz h
   simp only[bQ,ac2]
   exact⟨λe'=>e e'.symm,this⟩
theorem akA{α:Type}[DecidableEq α]:∀ (l seen:List α),seen.Nodup->(nub l seen).Nodup
 | [],seen,h=>h
 | a::l,seen,h=>by
  simp only[nub]
  split
  .exact akA l seen h
  .rename_i hn
   refine akA l _ ?_
   rw[List.nodup_append]
   exact⟨h,by simp,λx hx y hy=>by simp at hy;subst hy;exact λe=>hn (e▸hx)⟩
theorem aiq(objs:List Ob):∀ (n:Nat) (todo seen:List Nat),seen.Nodup->(fE objs n todo seen).Nodup
 | 0,_,seen,h=>h
 | _+1,[],seen,h=>h
 | n+1,r::todo,seen,h=>by
  simp only[fE]
  split
  .exact aiq objs n todo seen h
  .rename_i hn
   refine aiq objs n _ _ ?_
   rw[List.nodup_append]
   exact⟨h,by simp,λx hx y hy=>by simp at hy;subst hy;exact λe=>hn (e▸hx)⟩
theorem akR(objs:List Ob):∀ (n:Nat) (todo seen:List Nat),∃ q,fE objs n todo seen=seen++q
 | 0,_,seen=>⟨[],by simp[fE]⟩
 | _+1,[],seen=>⟨[],by simp[fE]⟩
 | n+1,r::todo,seen=>by
  simp only[fE]
  split
  .exact akR objs n todo seen
  .obtain⟨q,hq⟩:=akR objs n (((objs[r]?).map Ob.refs).getD []++todo) (seen++[r])
   exact⟨r::q,by rw[hq];simp⟩
structure GP where
 holds:World->Prop
 blk:Nat->Prop
 keep:∀ w w',holds w->(∀ b,blk b->w'.heap[b]?=w.heap[b]?)->holds w'
structure Base where
 G:GP
 m:Mem
 mod:Nat->Prop
structure Keeps (M:Nat->Prop) (w w':World):Prop where
 os:w'.os=w.os
 tape:w'.tape=w.tape
 output:w'.output=w.output
 size:w.heap.size<=w'.heap.size
 block:∀ b,b<w.heap.size->¬ M b->w'.heap[b]?=w.heap[b]?
theorem Keeps.refl(M:Nat->Prop)(w:World):Keeps M w w:=⟨rfl,rfl,rfl,am _,λ_ _ _=>rfl⟩
theorem Keeps.trans{M:Nat->Prop}{a b c:World}(h:Keeps M a b)(h':Keeps M b c):Keeps M a c :=
 ⟨h'.os.trans h.os,h'.tape.trans h.tape,h'.output.trans h.output,gU h.size h'.size,λx hx hm=>(h'.block x (cD hx h.size) hm).trans (h.block x hx hm)⟩
theorem Keeps.below{M:Nat->Prop}{w w':World}(h:Below w.heap.size w w'):Keeps M w w':=⟨h.os,h.tape,h.output,h.size,λb hb _=>h.block b hb⟩
def agk(M:Nat->Prop)(w0:World)(b:Nat):Prop:=w0.heap.size<=b\/M b
def adH(k:Know)(ow:Own)(w:World)(b:Nat):Ob->Prop
 | .var ty xs=>∃ (vs:List Value),w.heap[b]?=some (.cells vs.toArray ty (0,0))/\(∀ u∈vs,u.oneCell'=true)/\aV k ow xs vs
 | .map es=>∃ (ms:Array MapEntry) (cl:Nat),w.heap[b]?=some (.map ms cl)/\ms.toList.map (·.key)=es.map (·.1)/\bA k.m (es.map (·.2)) (ms.toList.map (·.val))
 | .row ty cs=>cs=[]\/∃ (vs sp:List Value),w.heap[b]?=some (.cells (vs++sp).toArray ty (0,0))/\(∀ u∈vs,u.oneCell'=true)/\bA k.m cs vs
def Liv(objs:List Ob)(r:Nat):Prop:=∃ ob,objs[r]?=some ob/\ob.live=true
def gv(objs:List Ob)(n r:Nat):Prop:=∃ ty cs,objs[r]?=some (.row ty cs)/\cs.length<=n
def ack(σ:Nat->Option Nat)(ρ:Tk->Option Tk)(o:Ob):(o.tr σ ρ).live=o.live:=by cases o <;> rfl
def ag2(t:Tk)(o:Ob):(o.drop t).live=o.live:=by cases o <;> rfl
def adQ{f:Ob->Ob}(hf:∀ o,(f o).live=o.live){objs:List Ob}{r:Nat}(h:Liv (objs.map f) r):Liv objs r:=by
 obtain⟨ob,h1,h2⟩:=h
 rw[cd,ay] at h1
 obtain⟨o,h3,rfl⟩:=h1
 exact⟨o,h3,by rw[← hf];exact h2⟩
def afy{f:Ob->Ob}(hf:∀ ty cs,f (.row ty cs)=.row ty cs){objs:List Ob}{n r:Nat}(h:gv objs n r):gv (objs.map f) n r:=by
 obtain⟨ty,cs,h1,h2⟩:=h
 exact⟨ty,cs,by rw[cd,h1];exact congrArg some (hf ty cs),h2⟩
def ahn{objs:List Ob}{r:Nat}(h:gv objs 0 r):¬ Liv objs r:=by
 obtain⟨ty,cs,h1,h2⟩:=h
 rintro⟨ob,h3,h4⟩
 obtain rfl:=aG (h1.symm.trans h3)
 have:cs=[]:=cr aC
 subst this
 cases h4
theorem gv.mono{objs:List Ob}{n m r:Nat}(h:gv objs n r)(hn:n<=m):gv objs m r:=by
 obtain⟨ty,cs,h1,h2⟩:=h
 exact⟨ty,cs,h1,gU h2 hn⟩
def ajv{objs:List Ob}{n r:Nat}{ob:Ob}(h:objs[r]?=some ob)(hn:∀ ty cs,ob≠.row ty cs):¬ gv objs n r:=by
 rintro⟨ty,cs,h1,_⟩
 exact hn ty cs (aG (h.symm.trans h1))
theorem adH.dead{k:Know}{ow:Own}{w:World}{b:Nat}{ob:Ob}(h:ob.live=false):adH k ow w b ob:=by
 cases ob with
 | var ty xs=>cases h
 | map es=>cases h
 | row ty cs=>cases cs with
  | nil=>exact .inl rfl
  | cons c cs=>cases h
def al5{objs:List Ob}{r:Nat}{ob:Ob}(h:objs[r]?=some ob)(hn:¬ Liv objs r):ob.live=false:=by
 cases hl:ob.live with
 | false=>rfl
 | true=>exact absurd ⟨ob,h,hl⟩ hn
def aet{objs l:List Ob}{r:Nat}(h:Liv (objs++l) r)(hr:r<objs.length):Liv objs r:=by
 obtain⟨ob,h1,h2⟩:=h
 rw[bq hr] at h1
 exact⟨ob,h1,h2⟩
def aHb{objs:List Ob}{n r:Nat}(h:gv objs n r):r<objs.length:=by
 obtain⟨ty,cs,h1,_⟩:=h
 exact (List.getElem?_eq_some_iff.1 h1).1
def akt{objs l:List Ob}{n r:Nat}(h:gv objs n r):gv (objs++l) n r:=by
 have hr:=aHb h
 obtain⟨ty,cs,h1,h2⟩:=h
 exact⟨ty,cs,by rw[bq hr];exact h1,h2⟩
def asg{objs:List Ob}{r r':Nat}{ob:Ob}(hne:r'≠r)(h:Liv (objs.set r ob) r'):Liv objs r':=by
 obtain⟨o,h1,h2⟩:=h
 rw[fa (bC hne)] at h1
 exact⟨o,h1,h2⟩
def am4{objs:List Ob}{n r r':Nat}{ob:Ob}(hne:r'≠r)(h:gv objs n r'):gv (objs.set r ob) n r':=by
 obtain⟨ty,cs,h1,h2⟩:=h
 exact⟨ty,cs,by rw[fa (bC hne)];exact h1,h2⟩
def axB{objs:List Ob}{r:Nat}(hr:r<objs.length)(hn:¬ Liv objs r):gv objs 0 r:=by
 have h1:objs[r]?=some objs[r]:=aO hr
 generalize objs[r]=ob at h1
 have hl:=al5 h1 hn
 cases ob with
 | var ty xs=>cases hl
 | map es=>cases hl
 | row ty cs=>cases cs with
  | nil=>exact⟨ty,[],h1,am _⟩
  | cons c cs=>cases hl
structure Hp (M0:Base) (k:Know) (ow:Own) (w0 w:World) (objs:List Ob):Prop where
 good:M0.G.holds w0/\∀ b,M0.G.blk b->b<w0.heap.size/\¬ M0.mod b
 below:Keeps M0.mod w0 w
 mem:∀ b o v,k.m b o=some v->w.cell? ⟨b,o,none⟩=some v/\v.oneCell'=true
 obj:∀ r ob,objs[r]?=some ob->∃ b,k.μ r=some b/\agk M0.mod w0 b/\b<w.heap.size/\(ob.live=true->∀ o,k.m b o=none)/\adH k ow w b ob
 dom:∀ r b,k.μ r=some b->r<objs.length
 inj:∀ r r' b,k.μ r=some b->k.μ r'=some b->Liv objs r->Liv objs r'->r=r'
 tok:∀ t v e z n,ow t=some (v,e,z,n)->(∃ xs,w.ownsRow 0 e z v n xs)/\∀ g,v.ownBlock=some g->agk M0.mod w0 g/\(∀ o,n*z<=o->k.m g o=none)/\∀ r,k.μ r=some g->gv objs (n*z) r/\(Liv objs r->t=abw r)
 tokne:∀ t t' v e z n v' e' z' n',ow t=some (v,e,z,n)->ow t'=some (v',e',z',n')->t≠t'->∀ g,v.ownBlock=some g->v'.ownBlock≠some g
 m0:∀ b o v,k.m b o=some v->b<w0.heap.size->¬ M0.mod b->M0.m b o=some v
def Tk.older(clk:Nat)(done:Nat->Prop):Tk->Prop
 | .nm c ix _=>c<clk\/(c=clk/\done ix)
 | .cell ..=>True
structure Sim (M0:Base) (k:Know) (ow:Own) (done:Nat->Prop) (w0 w:World) (N:Nat) (s:S) (tmps:Array Value):Prop extends Hp M0 k ow w0 w s.objs where
 size:tmps.size=N
 fr:∀ j,aL k ow (s.fr j) (tmps.getD j undef)
 fresh:∀ t p,ow t=some p->t.older s.clk done
 cells:∀ r off p,ow (.cell r off)=some p->r<s.objs.length
def agq{k:Know}{w:World}(h:∀ b o v,k.m b o=some v->w.cell? ⟨b,o,none⟩=some v/\v.oneCell'=true){b o:Nat}{v:Value}(hm:k.m b o=some v):b<w.heap.size :=
 World.block_lt_of_cell? (a:=⟨b,o,none⟩) w (h _ _ _ hm).1
def acE{w w':World}{B e z:Nat}{v:Value}{n:Nat}{xs:List Value}(h:∀ g,v.ownBlock=some g->g<w.heap.size->w'.heap[g]?=w.heap[g]?)(ho:w.ownsRow B e z v n xs):w'.ownsRow B e z v n xs:=by
 refine⟨ho.1,?_⟩
 rcases ho.2 with h2|⟨g,cap,cur,hv,hg,hh,r⟩
 .exact .inl h2
 .exact .inr ⟨g,cap,cur,hv,hg,by rw[h g (by rw[hv];rfl) (Array.getElem?_eq_some_iff.1 hh).1];exact hh,r⟩
def aBK{w:World}{B e z:Nat}{v:Value}{n:Nat}{xs:List Value}(ho:w.ownsRow B e z v n xs){g:Nat}(hg:v.ownBlock=some g):g<w.heap.size:=(ho.lt g hg).2
theorem adH.keep{k:Know}{ow:Own}{w w':World}{b:Nat}{ob:Ob}(hb:w'.heap[b]?=w.heap[b]?)(h:adH k ow w b ob):adH k ow w' b ob:=by
 cases ob <;> simp only[adH,hb] at h ⊢ <;> exact h
theorem adH.mono{k k':Know}{ow ow':Own}{w:World}{b:Nat}{ob:Ob}(hk:k.le k')(ho:ow.sub ow')(h:adH k ow w b ob):adH k' ow' w b ob:=by
 cases ob with
 | var ty xs =>
  obtain⟨vs,h1,h2,h3⟩:=h
  exact⟨vs,h1,h2,aV.mono hk ho _ _ h3⟩
 | map es =>
  obtain⟨ms,cl,h1,h2,h3⟩:=h
  exact⟨ms,cl,h1,h2,bA.mono hk.1 _ _ h3⟩
 | row ty cs =>
  rcases h with h|⟨vs,sp,h1,h2,h3⟩
  .exact .inl h
  .exact .inr ⟨vs,sp,h1,h2,bA.mono hk.1 _ _ h3⟩
theorem adH.tr{σ:Nat->Option Nat}{ρ:Tk->Option Tk}{k k':Know}{ow ow':Own}(hn:Ren σ ρ k k' ow ow'){w:World}{b:Nat}{ob:Ob}(h:adH k ow w b ob):adH k' ow' w b (ob.tr σ ρ):=by
 cases ob with
 | var ty xs =>
  obtain⟨vs,h1,h2,h3⟩:=h
  exact⟨vs,h1,h2,aV.tr hn _ _ h3⟩
 | map es =>
  obtain⟨ms,cl,h1,h2,h3⟩:=h
  exact⟨ms,cl,h1,h2,bA.mono hn.m _ _ h3⟩
 | row ty cs =>
  rcases h with h|⟨vs,sp,h1,h2,h3⟩
  .exact .inl h
  .exact .inr ⟨vs,sp,h1,h2,bA.mono hn.m _ _ h3⟩
theorem adH.drop{k:Know}{ow:Own}{w:World}{b:Nat}{ob:Ob}(t:Tk)(hrow:t.isRow=false)(h:adH k ow w b ob):adH k (ow.del t) w b (ob.drop t):=by
 cases ob with
 | var ty xs =>
  obtain⟨vs,h1,h2,h3⟩:=h
  exact⟨vs,h1,h2,aV.drop t hrow _ _ h3⟩
 | map es=>exact h
 | row ty cs=>exact h
section
variable {M0:Base} {k:Know} {ow:Own} {done:Nat->Prop} {w0 w w':World} {N:Nat} {s:S} {tmps:Array Value} {ds:List Deferred} {objs:List Ob}
theorem Hp.lt(h:Hp M0 k ow w0 w objs){r b:Nat}(hr:k.μ r=some b):agk M0.mod w0 b/\b<w.heap.size/\(Liv objs r->∀ o,k.m b o=none):=by
 obtain⟨b',h2,h3,h4,h5,_⟩:=h.obj r _ (aO (h.dom r b hr))
 obtain rfl:=aG (h2.symm.trans hr)
 exact⟨h3,h4,fun⟨ob,g1,g2⟩=>h5 (by rw[aO (h.dom r b' hr)] at g1;obtain rfl:=aG g1;exact g2)⟩
theorem Hp.tlt(h:Hp M0 k ow w0 w objs){t:Tk}{v:Value}{e z n:Nat}(ht:ow t=some (v,e,z,n)){g:Nat}(hg:v.ownBlock=some g):agk M0.mod w0 g/\g<w.heap.size:=by
 obtain⟨⟨xs,h1⟩,h2⟩:=h.tok t v e z n ht
 exact⟨(h2 g hg).1,aBK h1 hg⟩
theorem Hp.table(h:Hp M0 k ow w0 w objs):M0.G.holds w:=M0.G.keep w0 w h.good.1 λb hb=>h.below.block b (h.good.2 b hb).1 (h.good.2 b hb).2
theorem Hp.grow(h:Hp M0 k ow w0 w objs)(hb:Below w.heap.size w w'):Hp M0 k ow w0 w' objs where
 good:=h.good
 below:=h.below.trans (.below hb)
 mem:=λb o v hm=>by
  obtain⟨h1,h2⟩:=h.mem b o v hm
  exact⟨(hb.cell (p:=⟨b,o,none⟩) (agq h.mem hm)).trans h1,h2⟩
 obj:=λr ob hr=>by
  obtain⟨b,h1,h2,h3,h4,h5⟩:=h.obj r ob hr
  exact⟨b,h1,h2,cD h3 hb.size,h4,h5.keep (hb.block b h3)⟩
 dom:=h.dom
 inj:=h.inj
 tok:=λt v e z n ht=>by
  obtain⟨⟨xs,h1⟩,h2⟩:=h.tok t v e z n ht
  exact⟨⟨xs,acE (λg _ hg=>hb.block g hg) h1⟩,h2⟩
 tokne:=h.tokne
 m0:=h.m0
theorem Sim.grow(h:Sim M0 k ow done w0 w N s tmps)(hb:Below w.heap.size w w'):Sim M0 k ow done w0 w' N s tmps :=
 {h.toHp.grow hb with size:=h.size,fr:=h.fr,fresh:=h.fresh,cells:=h.cells}
theorem Sim.put(h:Sim M0 k ow done w0 w N s tmps)(d:Option Nat)(hd:∀ j,d=some j->j<N){x:X}{v:Value}(hx:aL k ow x v) :
  Sim M0 k ow done w0 w N (s.put d x) (Act.put ⟨tmps,ds⟩ d v).tmps:=by
 cases d with
 | none=>exact h
 | some d =>
  have hlt:=hd d rfl
  refine {h.toHp with size:=by simp[Act.put,h.size],fr:=λj=>?_,fresh:=h.fresh,cells:=h.cells}
  simp only[S.put,upd,Act.put]
  by_cases hj:j=d
  .subst hj
   simp only[ah]
   have:(tmps.setIfInBounds j v).getD j undef=v:=by simp[h.size,hlt]
   rw[this]
   exact hx
  .rw[aA hj]
   have:(tmps.setIfInBounds d v).getD j undef=tmps.getD j undef:=by
    simp[aaa (bC hj)]
   rw[this]
   exact h.fr j
theorem Sim.del(h:Sim M0 k ow done w0 w N s tmps)(t:Tk)(hrow:t.isRow=false):Sim M0 k (ow.del t) done w0 w N (s.drop (some t)) tmps where
 good:=h.good
 size:=h.size
 below:=h.below
 fr:=λj=>aL.drop t hrow _ _ (h.fr j)
 mem:=h.mem
 obj:=λr ob hr=>by
  simp only[S.drop,cd,ay] at hr
  obtain⟨ob',h1,rfl⟩:=hr
  obtain⟨b,h2,h3,h4,h5,h6⟩:=h.obj r ob' h1
  exact⟨b,h2,h3,h4,λhl=>h5 (by rw[← ag2 t];exact hl),h6.drop t hrow⟩
 dom:=λr b hr=>by simpa [S.drop] using h.dom r b hr
 inj:=λr r' b hr hr' hl hl'=>h.inj r r' b hr hr' (adQ (ag2 t) hl) (adQ (ag2 t) hl')
 tok:=λt' v e z n ht=>by
  simp only[Own.del] at ht
  split at ht
  .cases ht
  .obtain⟨g1,g2⟩:=h.tok t' v e z n ht
   exact⟨g1,λg hg=>⟨(g2 g hg).1,(g2 g hg).2.1,λr hr=>⟨afy (λ_ _=>rfl) ((g2 g hg).2.2 r hr).1,λhl=>((g2 g hg).2.2 r hr).2 (adQ (ag2 t) hl)⟩⟩⟩
 tokne:=λt t' v e z n v' e' z' n' ht ht'=>by
  simp only[Own.del] at ht ht'
  split at ht
  .cases ht
  .split at ht'
   .cases ht'
   .exact h.tokne t t' v e z n v' e' z' n' ht ht'
 fresh:=λt' p ht=>by
  simp only[Own.del] at ht
  split at ht
  .cases ht
  .exact h.fresh t' p ht
 cells:=λr off p ht=>by
  simp only[Own.del] at ht
  split at ht
  .cases ht
  .simpa [S.drop] using h.cells r off p ht
 m0:=h.m0
def Own.add(ow:Own)(t:Tk)(p:Value×Nat×Nat×Nat):Own:=λt'=>if t'=t then some p else ow t'
theorem Own.sub_add{ow:Own}{t:Tk}{p:Value×Nat×Nat×Nat}(h:ow t=none):ow.sub (ow.add t p):=λt' q hq=>by
 simp only[Own.add]
 split
 .rename_i e;subst e;rw[h] at hq;cases hq
 .exact hq
theorem Sim.add(h:Sim M0 k ow done w0 w N s tmps){c ix i:Nat}{v:Value}{e z n:Nat}{xs:List Value}(hn:ow (.nm c ix i)=none)
  (hrow:w.ownsRow 0 e z v n xs) (hm:∀ g,v.ownBlock=some g->agk M0.mod w0 g/\(∀ o,n*z<=o->k.m g o=none)/\∀ r,k.μ r=some g->gv s.objs 0 r)
  (hne:∀ t' v' e' z' n',ow t'=some (v',e',z',n')->∀ g,v.ownBlock=some g->v'.ownBlock≠some g)
  (hf:c<s.clk\/(c=s.clk/\done ix)):Sim M0 k (ow.add (.nm c ix i) (v,e,z,n)) done w0 w N s tmps where
 good:=h.good
 size:=h.size
 below:=h.below
 fr:=λj=>aL.mono (Know.le_refl k) (Own.sub_add hn) _ _ (h.fr j)
 mem:=h.mem
 obj:=λr ob hr=>by
  obtain⟨b,h2,h3,h4,h5,h6⟩:=h.obj r ob hr
  exact⟨b,h2,h3,h4,h5,h6.mono (Know.le_refl k) (Own.sub_add hn)⟩
 dom:=h.dom
 inj:=h.inj
 tok:=λt' v' e' z' n' ht=>by
  simp only[Own.add] at ht
  split at ht
  .simp only[bT] at ht
   obtain⟨rfl,rfl,rfl,rfl⟩:=ht
   exact⟨⟨xs,hrow⟩,λg hg=>⟨(hm g hg).1,(hm g hg).2.1,λr hr=>⟨((hm g hg).2.2 r hr).mono (bn _),λhl=>absurd hl (ahn ((hm g hg).2.2 r hr))⟩⟩⟩
  .exact h.tok t' v' e' z' n' ht
 tokne:=λt1 t2 v1 e1 z1 n1 v2 e2 z2 n2 h1 h2 hne' g hg hg'=>by
  simp only[Own.add] at h1 h2
  split at h1
  .rename_i e1'
   simp only[bT] at h1
   obtain⟨rfl,rfl,rfl,rfl⟩:=h1
   split at h2
   .rename_i e2';exact hne' (e1'.trans e2'.symm)
   .exact hne _ _ _ _ _ h2 g hg hg'
  .split at h2
   .simp only[bT] at h2
    obtain⟨rfl,rfl,rfl,rfl⟩:=h2
    exact hne _ _ _ _ _ h1 g hg' hg
   .exact h.tokne t1 t2 _ _ _ _ _ _ _ _ h1 h2 hne' g hg hg'
 fresh:=λt' p ht=>by
  simp only[Own.add] at ht
  split at ht
  .rename_i e1;subst e1;exact hf
  .exact h.fresh t' p ht
 cells:=λr off p ht=>by
  simp only[Own.add] at ht
  split at ht
  .rename_i e1;cases e1
  .exact h.cells r off p ht
 m0:=h.m0
theorem Sim.more(h:Sim M0 k ow done w0 w N s tmps){done':Nat->Prop}(hd:∀ i,done i->done' i):Sim M0 k ow done' w0 w N s tmps :=
 {h.toHp with
  size:=h.size
  fr:=h.fr
  cells:=h.cells
  fresh:=λt p ht=>by
   have:=h.fresh t p ht
   cases t with
   | nm c ix i=>exact this.imp id (fun⟨a,b⟩=>⟨a,hd _ b⟩)
   | cell r off=>trivial}
theorem Sim.tick(h:Sim M0 k ow done w0 w N s tmps):Sim M0 k ow (λ_=>False) w0 w N {s with clk:=s.clk+1} tmps :=
 {h.toHp with
  size:=h.size
  fr:=h.fr
  cells:=h.cells
  fresh:=λt p ht=>by
   have:=h.fresh t p ht
   cases t with
   | nm c ix i =>
    refine .inl ?_
    rcases this with h|⟨h,_⟩ <;> simp only[] <;> omega
   | cell r off=>trivial}
theorem aJD{m:Mem}{v:Value}{c:C}(h:aJE v=some c):Rep m c v/\v.oneCell'=true:=by
 unfold aJE at h
 split at h <;> cases h <;> simp[Rep,bA,Value.oneCell']
theorem axC{m:Mem}:∀ {vs:List Value} {cs:List C},axD vs=some cs->bA m cs vs/\∀ u∈vs,u.oneCell'=true
 | [],cs,h=>by
  simp only[axD,ae] at h
  subst h
  exact⟨by simp[bA],by simp⟩
 | v::r,cs,h=>by
  simp only[axD] at h
  split at h
  .rename_i c cs' h1 h2
   obtain rfl:=aG h
   obtain⟨g1,g2⟩:=aJD (m:=m) h1
   obtain⟨g3,g4⟩:=axC (m:=m) h2
   refine⟨by simp only[bA];exact⟨v,r,rfl,g1,g3⟩,λu hu=>?_⟩
   rcases bQ.1 hu with rfl|hu
   .exact g2
   .exact g4 u hu
  .cases h
theorem aJF{m:Mem}(vs:Array Value):Rep m (aJG vs.toList) (.agg vs):=by
 unfold aJG
 split
 .rename_i cs h
  obtain⟨g1,g2⟩:=axC (m:=m) h
  simp only[Rep]
  exact⟨vs.toList,by simp,g2,g1⟩
 .simp[Rep]
theorem ati(k:Know)(ow:Own)(v:Value):aL k ow (abK v) v:=by
 unfold abK
 split <;> first|(simp[aL,Rep,bA,Value.oneCell'];done)|(simp only[aL];exact aJF _)
theorem Sim.ev(h:Sim M0 k ow done w0 w N s tmps)(x:Operand):aL k ow (s.ev x) ((⟨tmps,ds⟩ : Act).eval x):=by
 cases x with
 | tmp t=>exact h.fr t
 | const v=>exact ati k ow v
 | func f=>simp[S.ev,Act.eval,aL,Rep,bA]
 | global g=>simp[S.ev,aL,Rep]
def Own.re(ρ:Tk->Option Tk)(ow ow':Own):Prop :=
 (∀ t p t',ow t=some p->ρ t=some t'->ow' t'=some p)/\(∀ t' p,ow' t'=some p->∃ t,ow t=some p/\ρ t=some t')
theorem Sim.tr(h:Sim M0 k ow done w0 w N s tmps){ρ:Tk->Option Tk}{ow':Own}(hr:ow.re ρ ow')(hrow:∀ r v e z n g t',ow (abw r)=some (v,e,z,n)->v.ownBlock=some g->k.μ r=some g->Liv s.objs r->ρ (abw r)=some t'->t'=abw r)(hf:∀ t p,ow' t=some p->t.older s.clk done)(hc:∀ r off p,ow' (.cell r off)=some p->r<s.objs.length) :
  Sim M0 k ow' done w0 w N (s.tr ρ) tmps :=
 have hn:Ren some ρ k k ow ow':=⟨λ_ _ _ h=>h,λr b r' hr he=>by cases he;exact hr,hr.1⟩
 {good:=h.good
  size:=h.size
  below:=h.below
  fr:=λj=>aL.tr hn _ _ (h.fr j)
  mem:=h.mem
  obj:=λr ob hr=>by
   simp only[S.tr,cd,ay] at hr
   obtain⟨ob',h1,rfl⟩:=hr
   obtain⟨b,h2,h3,h4,h5,h6⟩:=h.obj r ob' h1
   exact⟨b,h2,h3,h4,λhl=>h5 (by rw[← ack some ρ];exact hl),h6.tr hn⟩
  dom:=λr b hr=>by simpa [S.tr] using h.dom r b hr
  inj:=λr r' b hr hr' hl hl'=>h.inj r r' b hr hr' (adQ (ack some ρ) hl) (adQ (ack some ρ) hl')
  tok:=λt' v e z n ht=>by
   obtain⟨t,g1,g4⟩:=hr.2 _ _ ht
   obtain⟨g2,g3⟩:=h.tok t v e z n g1
   exact⟨g2,λg hg=>⟨(g3 g hg).1,(g3 g hg).2.1,λr hr=>⟨afy (λ_ _=>rfl) ((g3 g hg).2.2 r hr).1,λhl=>by
    have hl':=adQ (ack some ρ) hl
    obtain rfl:=((g3 g hg).2.2 r hr).2 hl'
    exact hrow r v e z n g t' g1 hg hr hl' g4⟩⟩⟩
  tokne:=λt t' v e z n v' e' z' n' ht ht' hne=>by
   obtain⟨a,g1,g2⟩:=hr.2 _ _ ht
   obtain⟨b,g3,g4⟩:=hr.2 _ _ ht'
   exact h.tokne a b v e z n v' e' z' n' g1 g3 (λe=>hne (by subst e;rw[g2] at g4;exact aG g4))
  fresh:=hf
  cells:=λr off p ht=>by simpa [S.tr] using hc r off p ht
  m0:=h.m0}
end

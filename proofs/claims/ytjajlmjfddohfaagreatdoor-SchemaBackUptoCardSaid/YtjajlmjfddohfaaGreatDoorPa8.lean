/-
  Chapter 12's catalogs as plain definitions: whether one may be, and what statements make of it. Conditions: none.
-/
import Derived.Test.YtjajlmjfddohfaaGreatDoorPa7
import Derived.Lib.ItoaNum
import Derived.Lib.Replace
import Derived.Lib.DecodeN
import Derived.Shelf.GgClosure.StringsIndexFunc
import Derived.Lib.Join
import Derived.Lib.AppendIntMem
import Derived.Lib.AppendZerosOnto
import Derived.Lib.SliceRun
import Derived.WalkKit
import Derived.Test.YtjajlmjfddohfaaGreatDoorRows
import Derived.Deep.Slices
import Derived.Carry
import Derived.ReadAgain
set_option linter.defProp false
set_option linter.unusedSectionVars false
set_option maxRecDepth 100000
set_option maxHeartbeats 32000000
namespace Go.Tab
structure IsOrd {α:Type} (f:α→α→Int):Prop where
 sgn:∀ a b,f a b=-1∨f a b=0∨f a b=1
 zero:∀ a b,f a b=0↔a=b
 anti:∀ a b,f a b=- f b a
 tr:∀ a b c,f a b≤0→f b c≤0→f a c≤0
structure V where
 k:Int
 n:Int
 s:ByteArray
 deriving DecidableEq
def V.t (v:V):List UInt8:=v.s.data.toList
theorem ayv {a b:ByteArray}:a.data.toList=b.data.toList↔a=b:=by
 constructor
 .intro h
  cases a with
  | mk x=>cases b with
   | mk y=>simp at h;rw[h]
 .rintro rfl;rfl
def aiR (l:List UInt8):Nat:=l.foldl (fun a b=>a*10+(b.toNat-48)) 0
theorem aeE:∀ u:Nat,aiR (Lib.decDigits u)=u:=by
 intro u
 induction u using Nat.strongRecOn with
 | _ u ih =>
  have key:∀ d:Nat,d<10→(UInt8.ofNat (48+d)).toNat-48=d:=by
   intro d hd
   simp
   omega
  rw[Lib.decDigits]
  split
  .rename_i h
   simp only[aiR,List.foldl_cons,List.foldl_nil,Nat.zero_mul,Nat.zero_add]
   exact key u h
  .rename_i h
   unfold aiR
   rw[List.foldl_append]
   have:=ih (u / 10) (by omega)
   unfold aiR at this
   rw[this]
   simp only[List.foldl_cons,List.foldl_nil,key _ (Nat.mod_lt u (by omega))]
   omega
theorem aia (u:Nat):∀ r,Lib.decDigits u≠45::r:=by
 intro r e
 have h:∀ u:Nat,∀ b∈Lib.decDigits u,48≤b.toNat:=by
  intro u
  induction u using Nat.strongRecOn with
  | _ u ih =>
   intro b hb
   rw[Lib.decDigits] at hb
   split at hb
   .rename_i h
    simp only[List.mem_singleton] at hb
    subst hb
    simp;omega
   .rename_i h
    rcases List.mem_append.1 hb with h1|h1
    .exact ih (u / 10) (by omega) b h1
    .simp only[List.mem_singleton] at h1
     subst h1
     have:=Nat.mod_lt u (show 10>0 by omega)
     simp;omega
 have:=h u 45 (by rw[e];simp)
 simp at this
theorem aGC {a b:Int} (h:Lib.itoa a=Lib.itoa b):a=b:=by
 unfold Lib.itoa at h
 split at h
 .split at h
  .have:=congrArg aiR (List.cons.inj h).2
   rw[aeE,aeE] at this
   omega
  .exact (aia _ _ h.symm).elim
 .split at h
  .exact (aia _ _ h).elim
  .have:=congrArg aiR h
   rw[aeE,aeE] at this
   omega
def okB (b:UInt8):Bool:=decide (32≤b.toNat)&&decide (b.toNat≤126)
def abh (s:ByteArray):Bool:=s.data.toList.all okB&&decide (s.size≤100)
def inB (n:Int):Bool:=decide (-1000000000000000≤n)&&decide (n≤1000000000000000)
def dL (v:V):Bool :=
 if v.k=0 then decide (v.n=0)&&decide (v.s=ByteArray.empty)
 else if v.k=1 then (decide (v.n=0)||decide (v.n=1))&&decide (v.s=ByteArray.empty)
 else if v.k=2 then inB v.n&&decide (v.s=ByteArray.empty)
 else if v.k=3 then decide (v.n=0)&&abh v.s
 else false
def acD (r:Nat):Bool:=decide (r<32)||decide (126<r)
theorem atI (n b0 b1 b2 b3:Nat) (h:128≤b0):126<(Lib.decodeN n b0 b1 b2 b3).1:=by
 unfold Lib.decodeN
 repeat' split
 all_goals omega
theorem arS (s:ByteArray) (i:Nat) (h:(s.get! i).toNat<128):Utf8.decode s i=((s.get! i).toNat,1):=by
 rw[Lib.decode_at,Lib.decodeN,if_pos h]
theorem aGO (s:ByteArray) (i:Nat) (h:i<s.size):s.data.toList[i]?=some (s.get! i):=by
 obtain⟨⟨l⟩⟩:=s
 have h:i<l.length:=h
 show l[i]?=some ((⟨l⟩ : Array UInt8)[i]!)
 rw[List.getElem?_eq_getElem h,getElem!_pos (⟨l⟩ : Array UInt8) i h]
 rfl
theorem an6 (s:ByteArray):∀ (f pos:Nat),s.size≤pos+f→(Lib.idxFuncFrom acD true s f pos<0↔(s.data.toList.drop pos).all okB=true)
 | 0,pos,h=>by
  have:s.data.toList.drop pos=[]:=List.drop_eq_nil_of_le (by simp only[Array.length_toList];exact h)
  rw[this]
  simp[Lib.idxFuncFrom]
 | f+1,pos,h=>by
  unfold Lib.idxFuncFrom
  by_cases hp:pos<s.size
  .rw[if_pos hp]
   have hg:=aGO s pos hp
   obtain⟨hl,hg2⟩:=List.getElem?_eq_some_iff.1 hg
   rw[List.drop_eq_getElem_cons hl,hg2,List.all_cons]
   by_cases hb:(s.get! pos).toNat<128
   .rw[arS s pos hb]
    simp only
    by_cases ho:acD (s.get! pos).toNat=true
    .rw[if_pos ho]
     have:okB (s.get! pos)=false:=by
      simp only[acD,Bool.or_eq_true,decide_eq_true_eq] at ho
      simp only[okB,Bool.and_eq_false_iff,decide_eq_false_iff_not]
      omega
     rw[this]
     simp
    .rw[if_neg ho]
     have:okB (s.get! pos)=true:=by
      simp only[acD,Bool.or_eq_true,decide_eq_true_eq] at ho
      simp only[okB,Bool.and_eq_true,decide_eq_true_eq]
      omega
     rw[this,Bool.true_and]
     exact an6 s f (pos+1) (by omega)
   .have ho:acD (Utf8.decode s pos).1=true:=by
     rw[Lib.decode_at]
     have:=atI (s.size-pos) (s.get! pos).toNat (s.get! (pos+1)).toNat (s.get! (pos+2)).toNat (s.get! (pos+3)).toNat (by omega)
     simp only[acD,Bool.or_eq_true,decide_eq_true_eq]
     exact .inr this
    rw[if_pos ho]
    have:okB (s.get! pos)=false:=by
     simp only[okB,Bool.and_eq_false_iff,decide_eq_false_iff_not]
     omega
    rw[this]
    simp
  .rw[if_neg hp]
   have:s.data.toList.drop pos=[]:=List.drop_eq_nil_of_le (by simp only[Array.length_toList];exact Nat.le_of_not_lt hp)
   rw[this]
   simp
theorem aw6 (s:ByteArray):Lib.idxFunc acD true s<0↔s.data.toList.all okB=true:=by
 have:=an6 s s.size 0 (by omega)
 simpa [Lib.idxFunc] using this
def ar (l:List UInt8):ByteArray:=⟨l.toArray⟩
theorem aFM {a b:List UInt8} (h:ar a=ar b):a=b:=by
 have:=congrArg (fun s:ByteArray=>s.data.toList) h
 simpa [ar] using this
def fst (s:ByteArray):Option UInt8:=s.data.toList.head?
end Go.Tab
namespace Go.Tab
open Go Go.Pe
structure Cl where
 tb:List UInt8
 nm:List UInt8
 ty:Int
 deriving DecidableEq
inductive Tm where
 | mk (op:Int) (v:V) (dep at':Int) (nm:List UInt8) (kids:List Tm) (sub:C) (ty:Int)
inductive Pn where
 | mk (op:Int) (tb ix:List UInt8) (cols:List Cl) (kids:List Pn) (terms lk rk:List Tm) (r:Nat→C) (est cost:Int)
def Pn.op:Pn→Int | .mk op ..=>op
def Pn.cols:Pn→List Cl | .mk _ _ _ cols ..=>cols
def Pn.kids:Pn→List Pn | .mk _ _ _ _ kids ..=>kids
def I64 (n:Int):Prop:=-9223372036854775808≤n∧n≤9223372036854775807
end Go.Tab
namespace Go.Proofs.YtjajlmjfddohfaaGreatDoor
open Go Go.Pe Go.Tab
def str (l:List UInt8):ByteArray:=⟨l.toArray⟩
def acy (n:Int):Bool:=decide (-9223372036854775808≤n∧n≤9223372036854775807)
def apJ (xs:List X) (obs:List Ob):Option An:=match xs,obs with
 | [.of (.lit (.int .i64 n))],[]=>if acy n then some ⟨false,[dA (str (Lib.itoa n))],[]⟩ else none
 | _,_=>none
def ixP (xs:List X) (obs:List Ob):Option An:=match xs,obs with
 | [.of (.lit (.string s)),.of (.fn f [])],[]=>if f=219 then some ⟨false,[ak (Lib.idxFunc acD true s)],[]⟩ else none
 | _,_=>none
def aeW (e z:Nat) (xs:List X) (obs:List Ob):Option An:=match xs,obs with
 | [.nil,.of (.lit (.int .i64 n))],[]=>if 0≤n∧n≤1048576 then some ⟨false,[.own (.nm 0 0 0) e z [] 0],[]⟩ else none
 | _,_=>none
def iw (e z:Nat) (xs:List X) (obs:List Ob):Option An:=match xs,obs with
 | [.of (.sl cs n)],[]=>if n≤1048576∧cs.length=n*z then some ⟨false,[.own (.nm 0 0 0) e z cs n],[]⟩ else none
 | _,_=>none
def abA:Orc:=fun f xs obs =>
 if f=154 then apJ xs obs
 else if f=218 then ixP xs obs
 else if f=74 then aeW 3 1 xs obs
 else if f=98 then aeW 60 5 xs obs
 else if f=47 then iw 48 6 xs obs
 else if f=52 then iw 60 5 xs obs
 else if f=50 then iw 53 3 xs obs
 else if f=51 then iw 88 9 xs obs
 else if f=55 then iw 3 1 xs obs
 else none
def pr:Pr:=⟨abA,aD,tkF,au,mtF⟩
theorem aPo (f:Nat):pr.obj f=aD f:=rfl
theorem aWi (f:Nat):pr.tk f=tkF f:=rfl
theorem auw (f:Nat):pr.keep f=au f:=rfl
theorem aWj (p:String) (d:Option Nat):pr.mt p d=mtF p d:=rfl
abbrev G1 (f:Nat) (xs:List X) (x:X):Prop:=ae Tryz.prog pr f xs [] ⟨false,[x],[]⟩
abbrev GN (f:Nat) (xs:List X) (rs:List X):Prop:=ae Tryz.prog pr f xs [] ⟨false,rs,[]⟩
theorem aw {P:Program} {f:Nat} {fn:Func} (h:FnI P f fn):aaV P f=fn.results.toList:=by unfold aaV;rw[h.2]
theorem aj {f:Nat} {fn:Func} {xs:List X} {obs:List Ob} {an:An} {kp:Bool} (hp:abA f xs obs=none) (hi:FnI Tryz.prog f fn) (hk:au f=kp) (hl:Nat.ble xs.length fn.ntmps=true)
  (h:WC Tryz.prog pr (fn.body.getD .skip) (acl xs obs) (aG6 Tryz.prog kp f obs.length an)):ae Tryz.prog pr f xs obs an :=
 ae.of_body hp hi.1 (by unfold al8;rw[hi.2];exact Nat.le_of_ble_eq_true hl) (by unfold aig;rw[hi.2,auw,hk];exact h)
end Go.Proofs.YtjajlmjfddohfaaGreatDoor
namespace Go.Proofs.YtjajlmjfddohfaaGreatDoor
open Go Go.Pe Go.Tab Go.RowKit
def hY:String:= "internal/strconv.uint64pow10"
def GT:GP where
 holds w:=Lib.TabIs Tryz.prog w hY .u64 Lib.pow10Tab
 blk b:=Tryz.prog.globalNamed hY=some b
 keep w w' h hk:=by
  unfold Lib.TabIs World.var? at h ⊢
  cases hg:Tryz.prog.globalNamed hY with
  | none=>rw[hg] at h;cases h
  | some g =>
   rw[hg] at h
   simp only[Option.bind_some] at h ⊢
   rw[hk g hg]
   exact h
theorem azv (xs:List X) (obs:List Ob) (an:An) (h:apJ xs obs=some an):jl Tryz.prog GT 154 xs obs an:=by
 unfold apJ at h
 split at h
 .rename_i n
  split at h
  .rename_i hn
   simp only[Option.some.injEq] at h
   subst h
   simp only[acy,decide_eq_true_eq] at hn
   intro fn hf k ow w vs hp hold hcl hvs
   simp only[aP,aF,Rep] at hvs
   obtain⟨v,r,rfl,⟨rfl,_⟩,rfl⟩:=hvs
   refine (Tryz.strconv_Itoa n hn.1 hn.2 w hp.table).mono ?_
   rintro e w' ⟨rfl,kk,os,rfl⟩
   exact⟨k,ow,[_],rfl,hp.grow (Lib.below_grow _ _ (Nat.le_refl _) _ _),Mem.le_refl _,Nat.le_refl _,fun _ _=>rfl,hold,hcl,_,_,rfl,⟨rfl,rfl⟩,rfl⟩
  .cases h
 .cases h
theorem aGh (r:Nat) (w:World):Calls Tryz.prog 219 #[.int .i32 (r:Int)] w fun e w'=>e=.returned (.bool (acD r))∧Below w.heap.size w w':=by
 unfold acD
 by_cases h1:(r:Int)<32
 .have h2:r<32:=by omega
  go_enter Tryz.func219,Tryz.ntmps219
  go_wp2
  go_ret
  exact⟨by simp[h2],.refl _ _⟩
 .have h2:¬ r<32:=by omega
  by_cases h3:(126:Int)<r
  .have h4:126<r:=by omega
   go_enter Tryz.func219,Tryz.ntmps219
   go_wp2
   go_ret
   exact⟨by simp[h4],.refl _ _⟩
  .have h4:¬ 126<r:=by omega
   go_enter Tryz.func219,Tryz.ntmps219
   go_wp2
   go_ret
   exact⟨by simp[h2,h4],.refl _ _⟩
theorem aGB (xs:List X) (obs:List Ob) (an:An) (h:ixP xs obs=some an):jl Tryz.prog GT 218 xs obs an:=by
 unfold ixP at h
 split at h
 .rename_i s f
  split at h
  .rename_i hf
   subst hf
   simp only[Option.some.injEq] at h
   subst h
   intro fn hf k ow w vs hp hold hcl hvs
   simp only[aP,aF,Rep,bn] at hvs
   obtain⟨v,r,rfl,⟨rfl,_⟩,v2,r2,rfl,⟨us,rfl,rfl⟩,rfl⟩:=hvs
   refine (Tryz.strings_IndexFunc_grows 219 #[] (enters_of Tryz.func219 (by kernel_rfl) rfl) acD s w fun W x _ _=>aGh x W).mono ?_
   rintro e w' ⟨rfl,hB⟩
   exact⟨k,ow,[_],rfl,hp.grow hB,Mem.le_refl _,Nat.le_refl _,fun _ _=>rfl,hold,hcl,_,_,rfl,⟨rfl,rfl⟩,rfl⟩
  .cases h
 .cases h
theorem aob {k:Know} {ow:Own} {w w':World} (hp:Hp ⟨GT,k.m,iE k ow⟩ k ow w w []) {v':Value} {e z n:Nat} {us:List Value} {cs:List C} (hb:Below w.heap.size w w') (hown:w'.ownsRow w.heap.size e z v' n us)
  (hcs:bn k.m cs us) (h1:∀ u∈us,u.oneCell'=true) :
  ∃ k' ow',Hp ⟨GT,k.m,iE k ow⟩ k' ow' w w' []∧k.m.le k'.m∧(∀ r,k'.μ r=k.μ r)∧(∀ t p,ow' t=some p→t.older 1 fun _=>False)∧(∀ r off p,ow' (.cell r off)=some p→r<0)∧aF k' ow' (.own (.nm 0 0 0) e z cs n) v':=by
 have hmlt:∀ b o u,k.m b o=some u→b<w.heap.size:=fun b o u hm=>ahM hp.mem hm
 have hge:∀ g,v'.ownBlock=some g→w.heap.size≤g:=fun g hg=>(hown.lt g hg).1
 let k':Know:={m:=fun b o=>if some b=v'.ownBlock then us[o]? else k.m b o,μ:=k.μ}
 have hm':∀ b o,k'.m b o=if some b=v'.ownBlock then us[o]? else k.m b o:=fun _ _=>rfl
 have hle:k.m.le k'.m:=fun b o u hm=>by
  rw[hm',if_neg (fun e=>by have:=hge b e.symm;have:=hmlt b o u hm;omega)]
  exact hm
 let ow':Own:=fun t=>if t=.nm 0 0 0 then some (v',e,z,n) else none
 have how:∀ t p,ow' t=some p→t=.nm 0 0 0∧p=(v',e,z,n):=fun t p ht=>by
  simp only[ow'] at ht
  split at ht
  .rename_i h;exact⟨h,(Option.some.inj ht).symm⟩
  .cases ht
 refine⟨k',ow',{
  good:=hp.good
  below:=hp.below.trans (.below hb)
  mem:=fun b o u hm=>?_
  obj:=fun r ob hr=>by simp at hr
  dom:=hp.dom
  inj:=hp.inj
  tok:=fun t v e2 z2 n2 ht=>?_
  tokne:=fun t t' v e2 z2 n2 v3 e3 z3 n3 ht ht' hne=>absurd ((how _ _ ht).1.trans (how _ _ ht').1.symm) hne
  m0:=fun b o u hm hlt hmd=>?_},hle,fun _=>rfl,fun t p ht=>?_,fun r off p ht=>?_,?_⟩
 .rw[hm'] at hm
  split at hm
  .rename_i hbk
   refine⟨?_,h1 u (List.mem_of_getElem? hm)⟩
   have:=hown.cells (g:=b) hbk.symm o u hm
   rwa [Addr.add_lit,Nat.zero_add] at this
  .obtain⟨g1,g2⟩:=hp.mem b o u hm
   exact⟨(World.cell?_of_block (a:=⟨b,o,none⟩) (hb.block b (hmlt b o u hm))).trans g1,g2⟩
 .obtain⟨rfl,he⟩:=how _ _ ht
  cases he
  refine⟨⟨us,hown.1,?_⟩,fun g hg=>⟨.inl (hge g hg),fun o ho=>?_,fun r hr=>by have:=hp.dom r g hr;simp at this⟩⟩
  .rcases hown.2 with h2|⟨g,cap,cur,hv,_,r⟩
   .exact .inl h2
   .exact .inr ⟨g,cap,cur,hv,Nat.zero_le _,r⟩
  .rw[hm',if_pos hg.symm,List.getElem?_eq_none]
   rw[hown.1]
   exact ho
 .rw[hm',if_neg (fun e=>by have:=hge b e.symm;omega)] at hm
  exact hp.m0 b o u hm hlt hmd
 .rw[(how _ _ ht).1]
  exact .inl (by decide)
 .have:=(how _ _ ht).1
  cases this
 .have hlen:=hcs.length
  have hk2:=bn.mono hle _ _ hcs
  simp only[aF,Rep]
  refine⟨by simp[ow'],by rw[← hlen,hown.1],?_⟩
  rcases hown.2 with ⟨rfl,rfl⟩|⟨g,cap,cur,rfl,_,_,hcap,_,_,_⟩
  .have:us=[]:=List.eq_nil_of_length_eq_zero (by rw[hown.1];simp)
   subst this
   exact⟨none,0,[],rfl,Nat.le_refl _,hk2,fun h=>absurd rfl h⟩
  .refine⟨some ⟨g,0,none⟩,cap,us,rfl,hcap,hk2,fun _=>⟨g,0,rfl,fun i u hu=>?_⟩⟩
   rw[hm']
   simp only[Value.ownBlock,if_true,Nat.zero_add]
   exact hu
theorem aeb {us:List Value} {w:World} (hA:us≠[]→∃ b o,(none:Option Addr)=some ⟨b,o,none⟩∧∀ i u,us[i]?=some u→w.cell? ⟨b,o+i,none⟩=some u):us=[]:=by
 apply Classical.byContradiction
 intro h
 obtain⟨b,o,e,_⟩:=hA h
 cases e
theorem aet {A:Option Addr} {us:List Value} {w:World} {ob:Obj} (hA:us≠[]→∃ b o,A=some ⟨b,o,none⟩∧∀ i u,us[i]?=some u→w.cell? ⟨b,o+i,none⟩=some u):us≠[]→∃ b o,A=some ⟨b,o,none⟩∧∀ i u,us[i]?=some u→(w.alloc ob).cell? ⟨b,o+i,none⟩=some u:=fun h=>by
 obtain⟨b,o,e,hc⟩:=hA h
 exact⟨b,o,e,fun i u hu=>Lib.cell?_alloc_some _ (hc i u hu)⟩
theorem aeu {w w':World} {ob:Obj} {v v':Value} {a:Nat} (h:((w.alloc ob).grownBy w' (Value.slice (some ⟨w.heap.size,0,none⟩) 0 a).ownBlock∧v'.ownBlock=v.ownBlock)∨((w.alloc ob).grownBy w' none∧v'.ownBlock=some (w.alloc ob).heap.size)):Below w.heap.size w w':=by
 rcases h with ⟨h,_⟩|⟨h,_⟩
 .exact ((Below.refl _ w).alloc (Nat.le_refl _) _).grown h (by simp) (by intro k hk;simp[Value.ownBlock] at hk;omega)
 .exact ((Below.refl _ w).alloc (Nat.le_refl _) _).grown h (by simp) (by intro k hk;cases hk)
theorem abv {f e z:Nat} (hw:∀ (A:Option Addr) (n c:Nat) (us:List Value) (w:World),us.length=n*z→n≤1048576→(us≠[]→∃ b o,A=some ⟨b,o,none⟩∧∀ i u,us[i]?=some u→w.cell? ⟨b,o+i,none⟩=some u)→(∀ u∈us,u.oneCell'=true) →
  Calls Tryz.prog f #[.slice A n c] w fun e' w'=>∃ v',e'=.returned v'∧w'.ownsRow w.heap.size e z v' n us∧Below w.heap.size w w') (xs:List X) (obs:List Ob) (an:An) (h:iw e z xs obs=some an):jl Tryz.prog GT f xs obs an:=by
 unfold iw at h
 split at h
 .rename_i cs n
  split at h
  .rename_i hc
   simp only[Option.some.injEq] at h
   subst h
   intro fn hf k ow w vs hp hold hcl hvs
   simp only[aP,aF,Rep] at hvs
   obtain⟨v,r,rfl,⟨A,cap,us,rfl,hcap,hus,hmem⟩,rfl⟩:=hvs
   have h1:∀ u∈us,u.oneCell'=true:=fun u hu=>by
    have hne:us≠[]:=by rintro rfl;cases hu
    obtain⟨b,o,ha,hcl⟩:=hmem hne
    obtain⟨i,hi⟩:=List.mem_iff_getElem?.1 hu
    exact (hp.mem _ _ _ (hcl i u hi)).2
   refine (hw A n cap us w (by rw[hus.length];exact hc.2) hc.1 (fun hne=>by
    obtain⟨b,o,ha,hcl⟩:=hmem hne
    exact⟨b,o,ha,fun i u hu=>(hp.mem _ _ _ (hcl i u hu)).1⟩) h1).mono ?_
   rintro e' w' ⟨v',rfl,hown,hB⟩
   obtain⟨k',ow',g1,g2,g3,g4,g5,g6⟩:=aob hp hB hown hus h1
   exact⟨k',ow',[v'],rfl,g1,g2,Nat.le_refl _,fun r _=>g3 r,g4,g5,v',[],rfl,g6,rfl⟩
  .cases h
 .cases h
theorem atL (A:Option Addr) (n c:Nat) (us:List Value) (w:World) (hl:us.length=n*6) (hn:n≤1048576) (hA:us≠[]→∃ b o,A=some ⟨b,o,none⟩∧∀ i u,us[i]?=some u→w.cell? ⟨b,o+i,none⟩=some u) (h1:∀ u∈us,u.oneCell'=true) :
  Calls Tryz.prog 47 #[.slice A n c] w fun e w'=>∃ v',e=.returned v'∧w'.ownsRow w.heap.size 48 6 v' n us∧Below w.heap.size w w':=by
 have q:∀ (w:World) (a:Option Addr) (n c n' c':Nat),(binOp .eql 24 (.slice a n c) (.slice none n' c')).run Tryz.prog w=.ok (.bool a.isNone) w:=fun w a n c n' c'=>Lib.run_eql_slice_nil w _ _ a n c n' c' Tryz.underlying24
 cases A with
 | none =>
  have h0:us=[]:=aeb hA
  have hn0:n=0:=by rw[h0] at hl;simp at hl;omega
  subst h0
  subst hn0
  go_enter Tryz.func47,Tryz.ntmps47
  go_wp2
  go_ret
  exact⟨_,rfl,World.ownsRow_nil w _ _ _,.refl _ _⟩
 | some ad =>
  obtain⟨v',w',hrun,hown',hcase⟩:=jt (P:=Tryz.prog) (w:=w.alloc (.cells #[] 48)) (t:=24) (ty:=24) Tryz.underlying24 T48 (by decide) (World.ownsRow_made w #[] 0 (Nat.le_refl _) (Nat.zero_le _) rfl) (A:=some ad) (m:=n) (c:=c) (news:=us) hl (aet hA) h1 (by unfold LIM;omega) (by decide) (by simp)
  have hb:=aeu hcase
  rw[List.nil_append,Nat.zero_add] at hown'
  go_enter Tryz.func47,Tryz.ntmps47
  go_wp2_with (at_builtin;refine Lib.wpList_append_run _ rfl _ _ _ _ rfl _ _ rfl rfl _ _ hrun ?_)
  go_ret
  exact⟨v',rfl,hown',hb⟩
theorem ajs (xs:List X) (obs:List Ob) (an:An) (h:iw 48 6 xs obs=some an):jl Tryz.prog GT 47 xs obs an:=abv (fun A n c us w h1 h2 h3 h4=>atL A n c us w h1 h2 h3 h4) xs obs an h
theorem atM (A:Option Addr) (n c:Nat) (us:List Value) (w:World) (hl:us.length=n*5) (hn:n≤1048576) (hA:us≠[]→∃ b o,A=some ⟨b,o,none⟩∧∀ i u,us[i]?=some u→w.cell? ⟨b,o+i,none⟩=some u) (h1:∀ u∈us,u.oneCell'=true) :
  Calls Tryz.prog 52 #[.slice A n c] w fun e w'=>∃ v',e=.returned v'∧w'.ownsRow w.heap.size 60 5 v' n us∧Below w.heap.size w w':=by
 have q:∀ (w:World) (a:Option Addr) (n c n' c':Nat),(binOp .eql 25 (.slice a n c) (.slice none n' c')).run Tryz.prog w=.ok (.bool a.isNone) w:=fun w a n c n' c'=>Lib.run_eql_slice_nil w _ _ a n c n' c' Tryz.underlying25
 cases A with
 | none =>
  have h0:us=[]:=aeb hA
  have hn0:n=0:=by rw[h0] at hl;simp at hl;omega
  subst h0
  subst hn0
  go_enter Tryz.func52,Tryz.ntmps52
  go_wp2
  go_ret
  exact⟨_,rfl,World.ownsRow_nil w _ _ _,.refl _ _⟩
 | some ad =>
  obtain⟨v',w',hrun,hown',hcase⟩:=jt (P:=Tryz.prog) (w:=w.alloc (.cells #[] 60)) (t:=25) (ty:=25) Tryz.underlying25 T60 (by decide) (World.ownsRow_made w #[] 0 (Nat.le_refl _) (Nat.zero_le _) rfl) (A:=some ad) (m:=n) (c:=c) (news:=us) hl (aet hA) h1 (by unfold LIM;omega) (by decide) (by simp)
  have hb:=aeu hcase
  rw[List.nil_append,Nat.zero_add] at hown'
  go_enter Tryz.func52,Tryz.ntmps52
  go_wp2_with (at_builtin;refine Lib.wpList_append_run _ rfl _ _ _ _ rfl _ _ rfl rfl _ _ hrun ?_)
  go_ret
  exact⟨v',rfl,hown',hb⟩
theorem ajt (xs:List X) (obs:List Ob) (an:An) (h:iw 60 5 xs obs=some an):jl Tryz.prog GT 52 xs obs an:=abv (fun A n c us w h1 h2 h3 h4=>atM A n c us w h1 h2 h3 h4) xs obs an h
theorem arX (A:Option Addr) (n c:Nat) (us:List Value) (w:World) (hl:us.length=n*3) (hn:n≤1048576) (hA:us≠[]→∃ b o,A=some ⟨b,o,none⟩∧∀ i u,us[i]?=some u→w.cell? ⟨b,o+i,none⟩=some u) (h1:∀ u∈us,u.oneCell'=true) :
  Calls Tryz.prog 50 #[.slice A n c] w fun e w'=>∃ v',e=.returned v'∧w'.ownsRow w.heap.size 53 3 v' n us∧Below w.heap.size w w':=by
 have q:∀ (w:World) (a:Option Addr) (n c n' c':Nat),(binOp .eql 29 (.slice a n c) (.slice none n' c')).run Tryz.prog w=.ok (.bool a.isNone) w:=fun w a n c n' c'=>Lib.run_eql_slice_nil w _ _ a n c n' c' Tryz.underlying29
 cases A with
 | none =>
  have h0:us=[]:=aeb hA
  have hn0:n=0:=by rw[h0] at hl;simp at hl;omega
  subst h0
  subst hn0
  go_enter Tryz.func50,Tryz.ntmps50
  go_wp2
  go_ret
  exact⟨_,rfl,World.ownsRow_nil w _ _ _,.refl _ _⟩
 | some ad =>
  obtain⟨v',w',hrun,hown',hcase⟩:=jt (P:=Tryz.prog) (w:=w.alloc (.cells #[] 53)) (t:=29) (ty:=29) Tryz.underlying29 T53 (by decide) (World.ownsRow_made w #[] 0 (Nat.le_refl _) (Nat.zero_le _) rfl) (A:=some ad) (m:=n) (c:=c) (news:=us) hl (aet hA) h1 (by unfold LIM;omega) (by decide) (by simp)
  have hb:=aeu hcase
  rw[List.nil_append,Nat.zero_add] at hown'
  go_enter Tryz.func50,Tryz.ntmps50
  go_wp2_with (at_builtin;refine Lib.wpList_append_run _ rfl _ _ _ _ rfl _ _ rfl rfl _ _ hrun ?_)
  go_ret
  exact⟨v',rfl,hown',hb⟩
theorem aic (xs:List X) (obs:List Ob) (an:An) (h:iw 53 3 xs obs=some an):jl Tryz.prog GT 50 xs obs an:=abv (fun A n c us w h1 h2 h3 h4=>arX A n c us w h1 h2 h3 h4) xs obs an h
theorem az8 (A:Option Addr) (n c:Nat) (us:List Value) (w:World) (hl:us.length=n*9) (hn:n≤1048576) (hA:us≠[]→∃ b o,A=some ⟨b,o,none⟩∧∀ i u,us[i]?=some u→w.cell? ⟨b,o+i,none⟩=some u) (h1:∀ u∈us,u.oneCell'=true) :
  Calls Tryz.prog 51 #[.slice A n c] w fun e w'=>∃ v',e=.returned v'∧w'.ownsRow w.heap.size 88 9 v' n us∧Below w.heap.size w w':=by
 have q:∀ (w:World) (a:Option Addr) (n c n' c':Nat),(binOp .eql 33 (.slice a n c) (.slice none n' c')).run Tryz.prog w=.ok (.bool a.isNone) w:=fun w a n c n' c'=>Lib.run_eql_slice_nil w _ _ a n c n' c' Tryz.underlying33
 cases A with
 | none =>
  have h0:us=[]:=aeb hA
  have hn0:n=0:=by rw[h0] at hl;simp at hl;omega
  subst h0
  subst hn0
  go_enter Tryz.func51,Tryz.ntmps51
  go_wp2
  go_ret
  exact⟨_,rfl,World.ownsRow_nil w _ _ _,.refl _ _⟩
 | some ad =>
  obtain⟨v',w',hrun,hown',hcase⟩:=jt (P:=Tryz.prog) (w:=w.alloc (.cells #[] 88)) (t:=33) (ty:=33) Tryz.underlying33 T88 (by decide) (World.ownsRow_made w #[] 0 (Nat.le_refl _) (Nat.zero_le _) rfl) (A:=some ad) (m:=n) (c:=c) (news:=us) hl (aet hA) h1 (by unfold LIM;omega) (by decide) (by simp)
  have hb:=aeu hcase
  rw[List.nil_append,Nat.zero_add] at hown'
  go_enter Tryz.func51,Tryz.ntmps51
  go_wp2_with (at_builtin;refine Lib.wpList_append_run _ rfl _ _ _ _ rfl _ _ rfl rfl _ _ hrun ?_)
  go_ret
  exact⟨v',rfl,hown',hb⟩
theorem akm (xs:List X) (obs:List Ob) (an:An) (h:iw 88 9 xs obs=some an):jl Tryz.prog GT 51 xs obs an:=abv (fun A n c us w h1 h2 h3 h4=>az8 A n c us w h1 h2 h3 h4) xs obs an h
theorem aEJ (A:Option Addr) (n c:Nat) (us:List Value) (w:World) (hl:us.length=n*1) (hn:n≤1048576) (hA:us≠[]→∃ b o,A=some ⟨b,o,none⟩∧∀ i u,us[i]?=some u→w.cell? ⟨b,o+i,none⟩=some u) (h1:∀ u∈us,u.oneCell'=true) :
  Calls Tryz.prog 55 #[.slice A n c] w fun e w'=>∃ v',e=.returned v'∧w'.ownsRow w.heap.size 3 1 v' n us∧Below w.heap.size w w':=by
 have q:∀ (w:World) (a:Option Addr) (n c n' c':Nat),(binOp .eql 58 (.slice a n c) (.slice none n' c')).run Tryz.prog w=.ok (.bool a.isNone) w:=fun w a n c n' c'=>Lib.run_eql_slice_nil w _ _ a n c n' c' Tryz.underlying58
 cases A with
 | none =>
  have h0:us=[]:=aeb hA
  have hn0:n=0:=by rw[h0] at hl;simp at hl;omega
  subst h0
  subst hn0
  go_enter Tryz.func55,Tryz.ntmps55
  go_wp2
  go_ret
  exact⟨_,rfl,World.ownsRow_nil w _ _ _,.refl _ _⟩
 | some ad =>
  obtain⟨v',w',hrun,hown',hcase⟩:=jt (P:=Tryz.prog) (w:=w.alloc (.cells #[] 3)) (t:=58) (ty:=58) Tryz.underlying58 T3 (by decide) (World.ownsRow_made w #[] 0 (Nat.le_refl _) (Nat.zero_le _) rfl) (A:=some ad) (m:=n) (c:=c) (news:=us) hl (aet hA) h1 (by unfold LIM;omega) (by decide) (by simp)
  have hb:=aeu hcase
  rw[List.nil_append,Nat.zero_add] at hown'
  go_enter Tryz.func55,Tryz.ntmps55
  go_wp2_with (at_builtin;refine Lib.wpList_append_run _ rfl _ _ _ _ rfl _ _ rfl rfl _ _ hrun ?_)
  go_ret
  exact⟨v',rfl,hown',hb⟩
theorem al0 (xs:List X) (obs:List Ob) (an:An) (h:iw 3 1 xs obs=some an):jl Tryz.prog GT 55 xs obs an:=abv (fun A n c us w h1 h2 h3 h4=>aEJ A n c us w h1 h2 h3 h4) xs obs an h
theorem arA {t e:Nat} {d:TD} (ht:Tryz.prog.underlying t=some (.slice e)) (hd:TT.of Tryz.prog e=some d) (hz:0<d.size) (hby:d.bytes≤32768) (n:Nat) (h0:0<n) (hn:n≤1048576) (w:World) :
  ∃ cap w',(∀ ty,(Builtin.append_ #[t,3] ty #[.slice none 0 0,.int .i64 (n:Int)]).run Tryz.prog w=.ok (.slice (some ⟨w.heap.size,0,none⟩) n cap) w')∧w'.ownsRow w.heap.size e d.size (.slice (some ⟨w.heap.size,0,none⟩) 0 cap) 0 []∧Below w.heap.size w w'∧n≤cap∧cap≤9223372036854775807:=by
 obtain⟨i,hi,hsz,hbi,z,hzz,hzl,_⟩:=(TT.of_ok hd).info
 have hzs:z.cells.size=i.size:=by rw[hsz,← (TT.of_ok hd).len,← hzl,Array.length_toList]
 have hb:n*i.bytes≤140737488355328:=Nat.le_trans (Nat.mul_le_mul hn (by rw[hbi];exact hby)) (by decide)
 have hge:=grownCap_ge w n 0 e
 have hle:=grownCap_le_maxLen w n 0 e (by unfold maxLen;omega)
 refine⟨grownCap w n 0 e,_,fun ty=>?_,World.ownsRow_made w.drew (([]:List Value).toArray++Builtin.zeroCells z.cells n++Builtin.zeroCells z.cells (grownCap w n 0 e-n)) (grownCap w n 0 e) (Nat.le_refl _) hle ?_,?_,hge,by unfold maxLen at hle;omega⟩
 .have h:=Lib.run_append_grow_zeros w t 3 ty e i z .i64 .i64 ht Tryz.underlying3 hi hzz none 0 0 [] (run_firstCells_none w.drew i.size 0 0 0) n h0 (by omega) (by omega) (by omega) (by omega) (by rw[Nat.zero_add];exact growslice_fits h0 hb)
  rw[Nat.zero_add] at h
  exact h
 .simp only[Array.size_append,size_zeroCells,hzs,hsz]
  have:([]:List Value).toArray.size=0:=rfl
  rw[this,Nat.zero_add,← Nat.add_mul,Nat.add_sub_cancel' hge]
 .have b:=(Below.refl w.heap.size w.drew).alloc (Nat.le_refl _) (.cells (([]:List Value).toArray++Builtin.zeroCells z.cells n++Builtin.zeroCells z.cells (grownCap w n 0 e-n)) e)
  exact⟨b.os,b.tape,b.output,b.size,b.block⟩
theorem alG {f e z:Nat} (hw:∀ (n:Nat) (w:World),n≤1048576→Calls Tryz.prog f #[.slice none 0 0,.int .i64 (n:Int)] w fun e' w'=>∃ v',e'=.returned v'∧w'.ownsRow w.heap.size e z v' 0 []∧Below w.heap.size w w') (xs:List X) (obs:List Ob) (an:An) (h:aeW e z xs obs=some an):jl Tryz.prog GT f xs obs an:=by
 unfold aeW at h
 split at h
 .rename_i n
  split at h
  .rename_i hc
   simp only[Option.some.injEq] at h
   subst h
   intro fn hf k ow w vs hp hold hcl hvs
   simp only[aP,aF,Rep] at hvs
   obtain⟨v,r,rfl,rfl,v2,r2,rfl,⟨rfl,_⟩,rfl⟩:=hvs
   obtain⟨n,rfl⟩:=Int.eq_ofNat_of_zero_le hc.1
   refine (hw n w (by omega)).mono ?_
   rintro e' w' ⟨v',rfl,hown,hB⟩
   obtain⟨k',ow',g1,g2,g3,g4,g5,g6⟩:=aob hp hB hown (us:=[]) (cs:=[]) (by simp[bn]) (fun u hu=>by cases hu)
   exact⟨k',ow',[v'],rfl,g1,g2,Nat.le_refl _,fun r _=>g3 r,g4,g5,v',[],rfl,g6,rfl⟩
  .cases h
 .cases h
theorem aGN (n:Nat) (hn:n≤1048576) (w:World):Calls Tryz.prog 74 #[.slice none 0 0,.int .i64 (n:Int)] w fun e w'=>∃ v',e=.returned v'∧w'.ownsRow w.heap.size 3 1 v' 0 []∧Below w.heap.size w w':=by
 have h1:¬ ((n:Int)<0):=by omega
 have h2:wrap64 ((0:Int)-(0:Int))=0:=by unfold wrap64;decide
 have h3:wrap64 ((n:Int)-0)=(n:Int):=by unfold wrap64;omega
 by_cases h0:n=0
 .subst h0
  go_enter Tryz.func74,Tryz.ntmps74
  go_wp2
  go_ret
  exact⟨_,rfl,World.ownsRow_nil w _ _ _,.refl _ _⟩
 .have h4:(n:Int)>0:=by omega
  obtain⟨cap,w',hrun,hown,hb,hc1,hc2⟩:=arA Tryz.underlying58 T3 (by decide) (by decide) n (by omega) hn w
  go_enter Tryz.func74,Tryz.ntmps74
  go_wp2_with (at_builtin;refine Lib.wpList_append_run _ rfl _ _ _ _ rfl _ _ rfl rfl _ _ (hrun _) ?_)
  all_goals (go_ret;exact⟨_,rfl,hown,hb⟩)
theorem amZ (xs:List X) (obs:List Ob) (an:An) (h:aeW 3 1 xs obs=some an):jl Tryz.prog GT 74 xs obs an:=alG (fun n w hn=>aGN n hn w) xs obs an h
theorem azH (n:Nat) (hn:n≤1048576) (w:World):Calls Tryz.prog 98 #[.slice none 0 0,.int .i64 (n:Int)] w fun e w'=>∃ v',e=.returned v'∧w'.ownsRow w.heap.size 60 5 v' 0 []∧Below w.heap.size w w':=by
 have h1:¬ ((n:Int)<0):=by omega
 have h2:wrap64 ((0:Int)-(0:Int))=0:=by unfold wrap64;decide
 have h3:wrap64 ((n:Int)-0)=(n:Int):=by unfold wrap64;omega
 by_cases h0:n=0
 .subst h0
  go_enter Tryz.func98,Tryz.ntmps98
  go_wp2
  go_ret
  exact⟨_,rfl,World.ownsRow_nil w _ _ _,.refl _ _⟩
 .have h4:(n:Int)>0:=by omega
  obtain⟨cap,w',hrun,hown,hb,hc1,hc2⟩:=arA Tryz.underlying25 T60 (by decide) (by decide) n (by omega) hn w
  go_enter Tryz.func98,Tryz.ntmps98
  go_wp2_with (at_builtin;refine Lib.wpList_append_run _ rfl _ _ _ _ rfl _ _ rfl rfl _ _ (hrun _) ?_)
  all_goals (go_ret;exact⟨_,rfl,hown,hb⟩)
theorem akg (xs:List X) (obs:List Ob) (an:An) (h:aeW 60 5 xs obs=some an):jl Tryz.prog GT 98 xs obs an:=alG (fun n w hn=>azH n hn w) xs obs an h
theorem aF3:PrSound Tryz.prog GT pr where
 prim f xs obs an h:=by
  replace h:abA f xs obs=some an:=h
  unfold abA at h
  split at h
  .rename_i e;subst e;exact azv xs obs an h
  split at h
  .rename_i e;subst e;exact aGB xs obs an h
  split at h
  .rename_i e;subst e;exact amZ xs obs an h
  split at h
  .rename_i e;subst e;exact akg xs obs an h
  split at h
  .rename_i e;subst e;exact ajs xs obs an h
  split at h
  .rename_i e;subst e;exact ajt xs obs an h
  split at h
  .rename_i e;subst e;exact aic xs obs an h
  split at h
  .rename_i e;subst e;exact akm xs obs an h
  split at h
  .rename_i e;subst e;exact al0 xs obs an h
  cases h
end Go.Proofs.YtjajlmjfddohfaaGreatDoor
namespace Go.Tab
open Go Go.Pe
def fl {α:Type} (f:α→List C) (l:List α):List C:=(l.map f).flatten
def slC {α:Type} (f:α→List C) (l:List α):C:=.sl (fl f l) l.length
def lsC {α:Type} (f:α→List C) (l:List α):List C:=[slC f l]
def aay (v:V):List C:=[ci v.k,ci v.n,ao v.s]
def aV (n:Int):List C:=[ci n]
def eP (b:Bool):List C:=[cb b]
def bd (s:List UInt8):List C:=[ao (ar s)]
def bG {α:Type} (_:α):Nat:=1
def aZ (s:List UInt8):Nat:=s.length+1
def ap5 (v:V):Nat:=v.s.size+4
def lsW {α:Type} (w:α→Nat) (l:List α):Nat:=(l.map w).sum+1
def bU {α:Type} (_:α):Prop:=True
def V64 (v:V):Prop:=I64 v.k∧I64 v.n
def lsP {α:Type} (p:α→Prop) (l:List α):Prop:=∀ x∈l,p x
structure Od where
 nm:List UInt8
 pl:Int
 dn:Bool
def odC (x:Od):List C:=bd x.nm++(aV x.pl++(eP x.dn))
def odW (x:Od):Nat:=aZ x.nm+bG x.pl+bG x.dn+1
def aAH (x:Od):Prop:=bU x.nm∧I64 x.pl∧bU x.dn
mutual
inductive Xp where
 | mk (op:Int) (v:V) (tb:List UInt8) (nm:List UInt8) (di:Bool) (ks:List Xp) (sb:List Qy)
inductive Qy where
 | mk (op:Int) (al:Bool) (ks:List Qy) (di:Bool) (its:List Im) (fr:List Fm) (wh:List Xp) (gr:List Xp) (hv:List Xp) (od:List Od) (li:Int) (sk:Int)
inductive Im where
 | mk (st:Bool) (tb:List UInt8) (e:Xp) (az:List UInt8)
inductive Fm where
 | mk (kd:Int) (nm:List UInt8) (az:List UInt8) (sb:List Qy) (ks:List Fm) (on:List Xp)
end
def Xp.op:Xp→Int | .mk op _ _ _ _ _ _=>op
def Xp.v:Xp→V | .mk _ v _ _ _ _ _=>v
def Xp.tb:Xp→List UInt8 | .mk _ _ tb _ _ _ _=>tb
def Xp.nm:Xp→List UInt8 | .mk _ _ _ nm _ _ _=>nm
def Xp.di:Xp→Bool | .mk _ _ _ _ di _ _=>di
def Xp.ks:Xp→List Xp | .mk _ _ _ _ _ ks _=>ks
def Xp.sb:Xp→List Qy | .mk _ _ _ _ _ _ sb=>sb
def Qy.op:Qy→Int | .mk op _ _ _ _ _ _ _ _ _ _ _=>op
def Qy.al:Qy→Bool | .mk _ al _ _ _ _ _ _ _ _ _ _=>al
def Qy.ks:Qy→List Qy | .mk _ _ ks _ _ _ _ _ _ _ _ _=>ks
def Qy.di:Qy→Bool | .mk _ _ _ di _ _ _ _ _ _ _ _=>di
def Qy.its:Qy→List Im | .mk _ _ _ _ its _ _ _ _ _ _ _=>its
def Qy.fr:Qy→List Fm | .mk _ _ _ _ _ fr _ _ _ _ _ _=>fr
def Qy.wh:Qy→List Xp | .mk _ _ _ _ _ _ wh _ _ _ _ _=>wh
def Qy.gr:Qy→List Xp | .mk _ _ _ _ _ _ _ gr _ _ _ _=>gr
def Qy.hv:Qy→List Xp | .mk _ _ _ _ _ _ _ _ hv _ _ _=>hv
def Qy.od:Qy→List Od | .mk _ _ _ _ _ _ _ _ _ od _ _=>od
def Qy.li:Qy→Int | .mk _ _ _ _ _ _ _ _ _ _ li _=>li
def Qy.sk:Qy→Int | .mk _ _ _ _ _ _ _ _ _ _ _ sk=>sk
def Im.st:Im→Bool | .mk st _ _ _=>st
def Im.tb:Im→List UInt8 | .mk _ tb _ _=>tb
def Im.e:Im→Xp | .mk _ _ e _=>e
def Im.az:Im→List UInt8 | .mk _ _ _ az=>az
def Fm.kd:Fm→Int | .mk kd _ _ _ _ _=>kd
def Fm.nm:Fm→List UInt8 | .mk _ nm _ _ _ _=>nm
def Fm.az:Fm→List UInt8 | .mk _ _ az _ _ _=>az
def Fm.sb:Fm→List Qy | .mk _ _ _ sb _ _=>sb
def Fm.ks:Fm→List Fm | .mk _ _ _ _ ks _=>ks
def Fm.on:Fm→List Xp | .mk _ _ _ _ _ on=>on
mutual
def xpC:Xp→List C
 | .mk op v tb nm di ks sb=>aV op++(aay v++(bd tb++(bd nm++(eP di++([.sl (aha ks) ks.length]++([.sl (amN sb) sb.length]))))))
def aha:List Xp→List C
 | []=>[]
 | x::r=>xpC x++aha r
def qyC:Qy→List C
 | .mk op al ks di its fr wh gr hv od li sk=>aV op++(eP al++([.sl (amN ks) ks.length]++(eP di++([.sl (azz its) its.length]++([.sl (arD fr) fr.length]++([.sl (aha wh) wh.length]++([.sl (aha gr) gr.length]++([.sl (aha hv) hv.length]++((lsC odC) od++(aV li++(aV sk)))))))))))
def amN:List Qy→List C
 | []=>[]
 | x::r=>qyC x++amN r
def imC:Im→List C
 | .mk st tb e az=>eP st++(bd tb++(xpC e++(bd az)))
def azz:List Im→List C
 | []=>[]
 | x::r=>imC x++azz r
def fmC:Fm→List C
 | .mk kd nm az sb ks on=>aV kd++(bd nm++(bd az++([.sl (amN sb) sb.length]++([.sl (arD ks) ks.length]++([.sl (aha on) on.length])))))
def arD:List Fm→List C
 | []=>[]
 | x::r=>fmC x++arD r
end
mutual
def xpW:Xp→Nat
 | .mk op v tb nm di ks sb=>bG op+ap5 v+aZ tb+aZ nm+bG di+(ag9 ks+1)+(amM sb+1)+1
def ag9:List Xp→Nat
 | []=>0
 | x::r=>xpW x+ag9 r
def qyW:Qy→Nat
 | .mk op al ks di its fr wh gr hv od li sk=>bG op+bG al+(amM ks+1)+bG di+(azy its+1)+(arC fr+1)+(ag9 wh+1)+(ag9 gr+1)+(ag9 hv+1)+(lsW odW) od+bG li+bG sk+1
def amM:List Qy→Nat
 | []=>0
 | x::r=>qyW x+amM r
def imW:Im→Nat
 | .mk st tb e az=>bG st+aZ tb+xpW e+aZ az+1
def azy:List Im→Nat
 | []=>0
 | x::r=>imW x+azy r
def fmW:Fm→Nat
 | .mk kd nm az sb ks on=>bG kd+aZ nm+aZ az+(amM sb+1)+(arC ks+1)+(ag9 on+1)+1
def arC:List Fm→Nat
 | []=>0
 | x::r=>fmW x+arC r
end
mutual
def d8:Xp→Prop
 | .mk op v tb nm di ks sb=>I64 op∧V64 v∧bU tb∧bU nm∧bU di∧adM ks∧agU sb
def adM:List Xp→Prop
 | []=>True
 | x::r=>d8 x∧adM r
def jX:Qy→Prop
 | .mk op al ks di its fr wh gr hv od li sk=>I64 op∧bU al∧agU ks∧bU di∧ame its∧ajo fr∧adM wh∧adM gr∧adM hv∧(lsP aAH) od∧I64 li∧I64 sk
def agU:List Qy→Prop
 | []=>True
 | x::r=>jX x∧agU r
def aew:Im→Prop
 | .mk st tb e az=>bU st∧bU tb∧d8 e∧bU az
def ame:List Im→Prop
 | []=>True
 | x::r=>aew x∧ame r
def abc:Fm→Prop
 | .mk kd nm az sb ks on=>I64 kd∧bU nm∧bU az∧agU sb∧ajo ks∧adM on
def ajo:List Fm→Prop
 | []=>True
 | x::r=>abc x∧ajo r
end
theorem afh:∀ l:List Xp,aha l=fl xpC l
 | []=>rfl
 | x::r=>by rw[aha,afh r];rfl
theorem adZ:∀ l:List Xp,ag9 l=(l.map xpW).sum
 | []=>rfl
 | x::r=>by rw[ag9,adZ r];rfl
theorem adf:∀ l:List Xp,adM l↔lsP d8 l
 | []=>by simp[adM,lsP]
 | x::r=>by simp[adM,lsP,adf r]
theorem afp:∀ l:List Qy,amN l=fl qyC l
 | []=>rfl
 | x::r=>by rw[amN,afp r];rfl
theorem ad8:∀ l:List Qy,amM l=(l.map qyW).sum
 | []=>rfl
 | x::r=>by rw[amM,ad8 r];rfl
theorem adg:∀ l:List Qy,agU l↔lsP jX l
 | []=>by simp[agU,lsP]
 | x::r=>by simp[agU,lsP,adg r]
theorem afy:∀ l:List Im,azz l=fl imC l
 | []=>rfl
 | x::r=>by rw[azz,afy r];rfl
theorem aei:∀ l:List Im,azy l=(l.map imW).sum
 | []=>rfl
 | x::r=>by rw[azy,aei r];rfl
theorem adh:∀ l:List Im,ame l↔lsP aew l
 | []=>by simp[ame,lsP]
 | x::r=>by simp[ame,lsP,adh r]
theorem afz:∀ l:List Fm,arD l=fl fmC l
 | []=>rfl
 | x::r=>by rw[arD,afz r];rfl
theorem aej:∀ l:List Fm,arC l=(l.map fmW).sum
 | []=>rfl
 | x::r=>by rw[arC,aej r];rfl
theorem adj:∀ l:List Fm,ajo l↔lsP abc l
 | []=>by simp[ajo,lsP]
 | x::r=>by simp[ajo,lsP,adj r]
theorem akA (x:Xp):xpC x=aV x.op++(aay x.v++(bd x.tb++(bd x.nm++(eP x.di++((lsC xpC) x.ks++((lsC qyC) x.sb)))))):=by
 cases x
 simp only[xpC,Xp.op,Xp.v,Xp.tb,Xp.nm,Xp.di,Xp.ks,Xp.sb,lsC,slC,afh,afp,afy,afz]
theorem jB (x:Xp):xpW x=bG x.op+ap5 x.v+aZ x.tb+aZ x.nm+bG x.di+(lsW xpW) x.ks+(lsW qyW) x.sb+1:=by
 cases x
 simp only[xpW,Xp.op,Xp.v,Xp.tb,Xp.nm,Xp.di,Xp.ks,Xp.sb,lsW,adZ,ad8,aei,aej]
theorem ax3 (x:Xp):d8 x↔I64 x.op∧V64 x.v∧bU x.tb∧bU x.nm∧bU x.di∧(lsP d8) x.ks∧(lsP jX) x.sb:=by
 cases x
 simp only[d8,Xp.op,Xp.v,Xp.tb,Xp.nm,Xp.di,Xp.ks,Xp.sb,adf,adg,adh,adj]
theorem aBK (x:Qy):qyC x=aV x.op++(eP x.al++((lsC qyC) x.ks++(eP x.di++((lsC imC) x.its++((lsC fmC) x.fr++((lsC xpC) x.wh++((lsC xpC) x.gr++((lsC xpC) x.hv++((lsC odC) x.od++(aV x.li++(aV x.sk))))))))))):=by
 cases x
 simp only[qyC,Qy.op,Qy.al,Qy.ks,Qy.di,Qy.its,Qy.fr,Qy.wh,Qy.gr,Qy.hv,Qy.od,Qy.li,Qy.sk,lsC,slC,afh,afp,afy,afz]
theorem gI (x:Qy):qyW x=bG x.op+bG x.al+(lsW qyW) x.ks+bG x.di+(lsW imW) x.its+(lsW fmW) x.fr+(lsW xpW) x.wh+(lsW xpW) x.gr+(lsW xpW) x.hv+(lsW odW) x.od+bG x.li+bG x.sk+1:=by
 cases x
 simp only[qyW,Qy.op,Qy.al,Qy.ks,Qy.di,Qy.its,Qy.fr,Qy.wh,Qy.gr,Qy.hv,Qy.od,Qy.li,Qy.sk,lsW,adZ,ad8,aei,aej]
theorem ax4 (x:Qy):jX x↔I64 x.op∧bU x.al∧(lsP jX) x.ks∧bU x.di∧(lsP aew) x.its∧(lsP abc) x.fr∧(lsP d8) x.wh∧(lsP d8) x.gr∧(lsP d8) x.hv∧(lsP aAH) x.od∧I64 x.li∧I64 x.sk:=by
 cases x
 simp only[jX,Qy.op,Qy.al,Qy.ks,Qy.di,Qy.its,Qy.fr,Qy.wh,Qy.gr,Qy.hv,Qy.od,Qy.li,Qy.sk,adf,adg,adh,adj]
theorem aEh (x:Im):imC x=eP x.st++(bd x.tb++(xpC x.e++(bd x.az))):=by
 cases x
 simp only[imC,Im.st,Im.tb,Im.e,Im.az,lsC,slC,afh,afp,afy,afz]
theorem abo (x:Im):imW x=bG x.st+aZ x.tb+xpW x.e+aZ x.az+1:=by
 cases x
 simp only[imW,Im.st,Im.tb,Im.e,Im.az,lsW,adZ,ad8,aei,aej]
theorem ax5 (x:Im):aew x↔bU x.st∧bU x.tb∧d8 x.e∧bU x.az:=by
 cases x
 simp only[aew,Im.st,Im.tb,Im.e,Im.az,adf,adg,adh,adj]
theorem aEq (x:Fm):fmC x=aV x.kd++(bd x.nm++(bd x.az++((lsC qyC) x.sb++((lsC fmC) x.ks++((lsC xpC) x.on))))):=by
 cases x
 simp only[fmC,Fm.kd,Fm.nm,Fm.az,Fm.sb,Fm.ks,Fm.on,lsC,slC,afh,afp,afy,afz]
theorem gK (x:Fm):fmW x=bG x.kd+aZ x.nm+aZ x.az+(lsW qyW) x.sb+(lsW fmW) x.ks+(lsW xpW) x.on+1:=by
 cases x
 simp only[fmW,Fm.kd,Fm.nm,Fm.az,Fm.sb,Fm.ks,Fm.on,lsW,adZ,ad8,aei,aej]
theorem ax6 (x:Fm):abc x↔I64 x.kd∧bU x.nm∧bU x.az∧(lsP jX) x.sb∧(lsP abc) x.ks∧(lsP d8) x.on:=by
 cases x
 simp only[abc,Fm.kd,Fm.nm,Fm.az,Fm.sb,Fm.ks,Fm.on,adf,adg,adh,adj]
structure Cd where
 nm:List UInt8
 ty:Int
 nn:Bool
def cdC (x:Cd):List C:=bd x.nm++(aV x.ty++(eP x.nn))
def cdW (x:Cd):Nat:=aZ x.nm+bG x.ty+bG x.nn+1
def asF (x:Cd):Prop:=bU x.nm∧I64 x.ty∧bU x.nn
structure Kd where
 pr:Bool
 ns:List (List UInt8)
def kdC (x:Kd):List C:=eP x.pr++((lsC bd) x.ns)
def kdW (x:Kd):Nat:=bG x.pr+(lsW aZ) x.ns+1
def aHO (x:Kd):Prop:=bU x.pr∧(lsP bU) x.ns
structure Rd where
 ns:List (List UInt8)
 tb:List UInt8
 to:List (List UInt8)
def rdC (x:Rd):List C:=(lsC bd) x.ns++(bd x.tb++((lsC bd) x.to))
def rdW (x:Rd):Nat:=(lsW aZ) x.ns+aZ x.tb+(lsW aZ) x.to+1
def aHG (x:Rd):Prop:=(lsP bU) x.ns∧bU x.tb∧(lsP bU) x.to
structure As where
 nm:List UInt8
 e:Xp
def asC (x:As):List C:=bd x.nm++(xpC x.e)
def asW (x:As):Nat:=aZ x.nm+xpW x.e+1
def aBb (x:As):Prop:=bU x.nm∧d8 x.e
structure Sm where
 kd:Int
 tb:List UInt8
 nm:List UInt8
 cs:List Cd
 ns:List (List UInt8)
 un:Bool
 kys:List Kd
 rfs:List Rd
 chs:List Xp
 rws:List (List Xp)
 sts:List As
 wh:List Xp
 q:List Qy
def smC (x:Sm):List C:=aV x.kd++(bd x.tb++(bd x.nm++((lsC cdC) x.cs++((lsC bd) x.ns++(eP x.un++((lsC kdC) x.kys++((lsC rdC) x.rfs++((lsC xpC) x.chs++((lsC (lsC xpC)) x.rws++((lsC asC) x.sts++((lsC xpC) x.wh++((lsC qyC) x.q))))))))))))
def smW (x:Sm):Nat:=bG x.kd+aZ x.tb+aZ x.nm+(lsW cdW) x.cs+(lsW aZ) x.ns+bG x.un+(lsW kdW) x.kys+(lsW rdW) x.rfs+(lsW xpW) x.chs+(lsW (lsW xpW)) x.rws+(lsW asW) x.sts+(lsW xpW) x.wh+(lsW qyW) x.q+1
def fz (x:Sm):Prop:=I64 x.kd∧bU x.tb∧bU x.nm∧(lsP asF) x.cs∧(lsP bU) x.ns∧bU x.un∧(lsP aHO) x.kys∧(lsP aHG) x.rfs∧(lsP d8) x.chs∧(lsP (lsP d8)) x.rws∧(lsP aBb) x.sts∧(lsP d8) x.wh∧(lsP jX) x.q
structure Ky where
 pr:Bool
 cs:List Int
 ix:Int
def kyC (x:Ky):List C:=eP x.pr++((lsC aV) x.cs++(aV x.ix))
def kyW (x:Ky):Nat:=bG x.pr+(lsW bG) x.cs+bG x.ix+1
def aHN (x:Ky):Prop:=bU x.pr∧(lsP I64) x.cs∧I64 x.ix
structure Rf where
 cs:List Int
 tb:List UInt8
 to:List Int
def rfC (x:Rf):List C:=(lsC aV) x.cs++(bd x.tb++((lsC aV) x.to))
def rfW (x:Rf):Nat:=(lsW bG) x.cs+aZ x.tb+(lsW bG) x.to+1
def aHF (x:Rf):Prop:=(lsP I64) x.cs∧bU x.tb∧(lsP I64) x.to
structure Tb where
 nm:List UInt8
 id:Int
 cs:List Cd
 kys:List Ky
 rfs:List Rf
 chs:List Xp
def tbC (x:Tb):List C:=bd x.nm++(aV x.id++((lsC cdC) x.cs++((lsC kyC) x.kys++((lsC rfC) x.rfs++((lsC xpC) x.chs)))))
def tbW (x:Tb):Nat:=aZ x.nm+bG x.id+(lsW cdW) x.cs+(lsW kyW) x.kys+(lsW rfW) x.rfs+(lsW xpW) x.chs+1
def aAB (x:Tb):Prop:=bU x.nm∧I64 x.id∧(lsP asF) x.cs∧(lsP aHN) x.kys∧(lsP aHF) x.rfs∧(lsP d8) x.chs
structure Ix where
 nm:List UInt8
 id:Int
 tb:List UInt8
 cs:List Int
 un:Bool
def ixC (x:Ix):List C:=bd x.nm++(aV x.id++(bd x.tb++((lsC aV) x.cs++(eP x.un))))
def ixW (x:Ix):Nat:=aZ x.nm+bG x.id+aZ x.tb+(lsW bG) x.cs+bG x.un+1
def aHP (x:Ix):Prop:=bU x.nm∧I64 x.id∧bU x.tb∧(lsP I64) x.cs∧bU x.un
structure Ct where
 tbs:List Tb
 ixs:List Ix
 nx:Int
def ctC (x:Ct):List C:=(lsC tbC) x.tbs++((lsC ixC) x.ixs++(aV x.nx))
def ctW (x:Ct):Nat:=(lsW tbW) x.tbs+(lsW ixW) x.ixs+bG x.nx+1
def aUX (x:Ct):Prop:=(lsP aAB) x.tbs∧(lsP aHP) x.ixs∧I64 x.nx
theorem ahC (x:Od):odC x=[ao (ar x.nm),ci x.pl,cb x.dn]:=by
 unfold odC;rfl
theorem auz (x:Od):(odC x).length=3:=by rw[ahC];rfl
theorem aaG (x:Xp):xpC x=[ci x.op,ci x.v.k,ci x.v.n,ao x.v.s,ao (ar x.tb),ao (ar x.nm),cb x.di,slC xpC x.ks,slC qyC x.sb]:=by
 rw[akA];rfl
theorem aiP (x:Xp):(xpC x).length=9:=by rw[aaG];rfl
theorem ahx (x:Qy):qyC x=[ci x.op,cb x.al,slC qyC x.ks,cb x.di,slC imC x.its,slC fmC x.fr,slC xpC x.wh,slC xpC x.gr,slC xpC x.hv,slC odC x.od,ci x.li,ci x.sk]:=by
 rw[aBK];rfl
theorem auv (x:Qy):(qyC x).length=12:=by rw[ahx];rfl
theorem ahY (x:Im):imC x=[cb x.st,ao (ar x.tb),ci x.e.op,ci x.e.v.k,ci x.e.v.n,ao x.e.v.s,ao (ar x.e.tb),ao (ar x.e.nm),cb x.e.di,slC xpC x.e.ks,slC qyC x.e.sb,ao (ar x.az)]:=by
 rw[aEh,akA];rfl
theorem aw5 (x:Im):(imC x).length=12:=by rw[ahY];rfl
theorem ah1 (x:Fm):fmC x=[ci x.kd,ao (ar x.nm),ao (ar x.az),slC qyC x.sb,slC fmC x.ks,slC xpC x.on]:=by
 rw[aEq];rfl
theorem axa (x:Fm):(fmC x).length=6:=by rw[ah1];rfl
theorem afC (x:Cd):cdC x=[ao (ar x.nm),ci x.ty,cb x.nn]:=by
 unfold cdC;rfl
theorem ajc (x:Cd):(cdC x).length=3:=by rw[afC];rfl
theorem ahR (x:Kd):kdC x=[cb x.pr,slC bd x.ns]:=by
 unfold kdC;rfl
theorem aw3 (x:Kd):(kdC x).length=2:=by rw[ahR];rfl
theorem aht (x:Rd):rdC x=[slC bd x.ns,ao (ar x.tb),slC bd x.to]:=by
 unfold rdC;rfl
theorem auu (x:Rd):(rdC x).length=3:=by rw[aht];rfl
theorem aii (x:As):asC x=[ao (ar x.nm),ci x.e.op,ci x.e.v.k,ci x.e.v.n,ao x.e.v.s,ao (ar x.e.tb),ao (ar x.e.nm),cb x.e.di,slC xpC x.e.ks,slC qyC x.e.sb]:=by
 unfold asC;rw[akA];rfl
theorem ax2 (x:As):(asC x).length=10:=by rw[aii];rfl
theorem eu (x:Sm):smC x=[ci x.kd,ao (ar x.tb),ao (ar x.nm),slC cdC x.cs,slC bd x.ns,cb x.un,slC kdC x.kys,slC rdC x.rfs,slC xpC x.chs,slC (lsC xpC) x.rws,slC asC x.sts,slC xpC x.wh,slC qyC x.q]:=by
 unfold smC;rfl
theorem aup (x:Sm):(smC x).length=13:=by rw[eu];rfl
theorem ahP (x:Ky):kyC x=[cb x.pr,slC aV x.cs,ci x.ix]:=by
 unfold kyC;rfl
theorem auC (x:Ky):(kyC x).length=3:=by rw[ahP];rfl
theorem ahq (x:Rf):rfC x=[slC aV x.cs,ao (ar x.tb),slC aV x.to]:=by
 unfold rfC;rfl
theorem auq (x:Rf):(rfC x).length=3:=by rw[ahq];rfl
theorem ahf (x:Tb):tbC x=[ao (ar x.nm),ci x.id,slC cdC x.cs,slC kyC x.kys,slC rfC x.rfs,slC xpC x.chs]:=by
 unfold tbC;rfl
theorem aiS (x:Tb):(tbC x).length=6:=by rw[ahf];rfl
theorem ahT (x:Ix):ixC x=[ao (ar x.nm),ci x.id,ao (ar x.tb),slC aV x.cs,cb x.un]:=by
 unfold ixC;rfl
theorem adQ (x:Ix):(ixC x).length=5:=by rw[ahT];rfl
theorem alU (x:Ct):ctC x=[slC tbC x.tbs,slC ixC x.ixs,ci x.nx]:=by
 unfold ctC;rfl
theorem aM5 (x:Ct):(ctC x).length=3:=by rw[alU];rfl
theorem bg {α:Type} {w:α→Nat} {l:List α} {x:α} (h:x∈l):w x<lsW w l:=by
 have:∀ l:List α,x∈l→w x≤(l.map w).sum:=fun l=>by
  induction l with
  | nil=>intro h;cases h
  | cons y r ih =>
   intro h
   rw[List.map_cons,List.sum_cons]
   rcases List.mem_cons.1 h with rfl|h
   .omega
   .have:=ih h
    omega
 have:=this l h
 unfold lsW
 omega
end Go.Tab
namespace Go.Proofs.YtjajlmjfddohfaaGreatDoor
open Go Go.Pe Go.RowKit Go.ChangeShapes Go.Deep
def aaY (W:World):Mem:=fun b o=>match W.cell? ⟨b,o,none⟩ with
 | some v=>if v.oneCell'=true then some v else none
 | none=>none
theorem aze {W:World} {b o:Nat} {v:Value} (h:W.cell? ⟨b,o,none⟩=some v) (h1:v.oneCell'=true):aaY W b o=some v:=by simp[aaY,h,h1]
theorem aCE {W:World} {b o:Nat} {v:Value} (h:aaY W b o=some v):W.cell? ⟨b,o,none⟩=some v∧v.oneCell'=true:=by
 unfold aaY at h
 split at h
 .split at h
  .rename_i h1 h2
   cases h
   exact⟨h1,h2⟩
  .cases h
 .cases h
inductive Pl (P:Program):TypeId→List C→Nat→Prop where
 | int {t:TypeId} {k:IntKind} {n:Int} {m:Nat} (hu:P.underlying t=some (.int k)) (hw:(Lit.int k n).wf=true) (hm:1≤m):Pl P t [.lit (.int k n)] m
 | bool {t:TypeId} {b:Bool} {m:Nat} (hu:P.underlying t=some .bool) (hm:1≤m):Pl P t [.lit (.bool b)] m
 | str {t:TypeId} {s:ByteArray} {m:Nat} (hu:P.underlying t=some .string) (hm:s.size+1≤m):Pl P t [.lit (.string s)] m
 | slice {t e:TypeId} {ps:List (List C)} {ws:List Nat} {m n:Nat} (hu:P.underlying t=some (.slice e)) (hp:ps.length=n) (hl:ws.length=n)
   (h:∀ i (h1:i<ps.length) (h2:i<ws.length),Pl P e ps[i] ws[i]) (hc:∀ i (h1:i<ps.length),ps[i].length=P.cellsOf e) (hn:∀ i (h2:i<ws.length),1≤ws[i]) (hm:ws.sum+1≤m):Pl P t [.sl ps.flatten n] m
 | struct {t:TypeId} {fs:Array Field} {ps:List (List C)} {ws:List Nat} {m:Nat} (hu:P.underlying t=some (.struct fs)) (hp:ps.length=fs.toList.length) (hl:ws.length=fs.toList.length)
   (h:∀ i (h0:i<fs.toList.length) (h1:i<ps.length) (h2:i<ws.length),Pl P fs.toList[i].type ps[i] ws[i]) (hm:ws.sum+1≤m):Pl P t ps.flatten m
def ahe (P:Program):Nat→List Field→Nat→Bool
 | o,[],n=>o == n
 | o,f::fs,n=>f.offset == o&&ahe P (o+P.cellsOf f.type) fs n
def aIO (P:Program) (l:List TypeId):Bool:=l.all fun t=>match P.underlying t with
 | some (.int _)=>true
 | some .bool=>true
 | some .string=>true
 | some (.slice e)=>l.contains e&&decide (0<P.cellsOf e)
 | some (.struct fs)=>fs.toList.all (fun f=>l.contains f.type)&&ahe P 0 fs.toList (P.cellsOf t)
 | _=>false
section
variable {H:Type} {enc:TypeId×Value→H} {W:World} {spare:Nat→Bool} {held:Bool} {P:Program}
theorem aqS {H:Type} (d:DataW H):1≤Rows.uptoBulk d:=by
 cases d with
 | lit l=>cases l <;> simp[Rows.uptoBulk]
 | _=>simp[Rows.uptoBulk]
theorem akn {H:Type} {α:Type} (f:α→DataW H):∀ l:List α,Rows.uptoBulkAll (l.map f)=(l.map fun x=>Rows.uptoBulk (f x)).sum
 | []=>rfl
 | x::l=>by simp only[List.map_cons,Rows.uptoBulkAll,List.sum_cons,akn f l]
theorem aOt (a:Addr) (m j:Nat):(a.add m).add j=a.add (m+j):=by
 unfold Addr.add
 by_cases hm:m=0
 .subst hm
  simp
 .by_cases hj:j=0
  .subst hj
   simp[hm]
  .simp[hm,hj,Nat.add_assoc]
theorem aBA {a:Addr} {len cap z:Nat} (hle:len≤cap) (hz:0<z) (cs:Nat→List Value) (g:Nat→List C)
  (h:∀ i,i<len→W.cells? 0 (a.add (i*z)) z=some (cs i)∧bn (aaY W) (g i) (cs i)∧∀ u∈cs i,u.oneCell'=true) :
  Rep (aaY W) (.sl ((List.range len).map g).flatten len) (.slice (some a) len cap):=by
 have h1:∀ n,n≤len→bn (aaY W) ((List.range n).map g).flatten ((List.range n).map cs).flatten∧((List.range n).map cs).flatten.length=n*z ∧
   ∀ i u,((List.range n).map cs).flatten[i]?=some u→W.cell? (a.add i)=some u∧u.oneCell'=true:=by
  intro n
  induction n with
  | zero=>intro _;exact⟨rfl,by simp,fun i u hu=>by simp at hu⟩
  | succ n ih =>
   intro hn
   obtain⟨i1,i2,i3⟩:=ih (by omega)
   obtain⟨j1,j2,j3⟩:=h n (by omega)
   obtain⟨_,k1,k2⟩:=World.cells?_some j1
   simp only[List.range_succ,List.map_append,List.map_cons,List.map_nil,List.flatten_append,List.flatten_cons,List.flatten_nil,List.append_nil]
   refine⟨i1.append j2,by rw[List.length_append,i2,k1,Nat.succ_mul],fun i u hu=>?_⟩
   rcases Nat.lt_or_ge i (n*z) with hi|hi
   .rw[List.getElem?_append_left (by omega)] at hu
    exact i3 i u hu
   .rw[List.getElem?_append_right (by omega),i2] at hu
    have hlt:i-n*z<z:=by
     have:=(List.getElem?_eq_some_iff.1 hu).1
     omega
    have:=k2 (i-n*z) hlt
    rw[hu] at this
    rw[aOt,show n*z+(i-n*z)=i by omega] at this
    exact⟨this,j3 u (List.mem_of_getElem? hu)⟩
 obtain⟨h2,h3,h4⟩:=h1 len (Nat.le_refl _)
 refine⟨some a,cap,_,rfl,hle,h2,fun hne=>?_⟩
 have hpl:a.spot=none:=by
  cases hv:((List.range len).map cs).flatten with
  | nil=>exact absurd hv hne
  | cons u r =>
   have:=(h4 0 u (by rw[hv];rfl)).1
   unfold Addr.add at this
   rw[if_pos rfl] at this
   cases hs:a.spot with
   | none=>rfl
   | some s =>
    unfold World.cell? at this
    split at this
    .simp[hs] at this
    .cases this
 refine⟨a.block,a.off,by cases a;simp only at hpl;rw[hpl],fun i u hu=>?_⟩
 obtain⟨h5,h6⟩:=h4 i u hu
 refine aze ?_ h6
 rw[← h5]
 unfold Addr.add
 split
 .rename_i e;subst e;cases a;simp only at hpl;rw[hpl];rfl
 .rfl
def aUt (P:Program) (W:World) (t:TypeId) (cs:List Value) (d:DataW H):Prop:=∃ g:List C,bn (aaY W) g cs∧(∀ u∈cs,u.oneCell'=true)∧Pl P t g (Rows.uptoBulk d)
theorem ajy {n:Nat} {l:List TypeId} (ih:∀ t cs x,t∈l→DataW.trod enc P W 0 spare held n t cs=some x→aUt P W t cs x.1) (cs:List Value) :
  ∀ (fs:List Field) (o:Nat) (xs:List (DataW H×List MemPlace)),ahe P o fs cs.length=true→(∀ f∈fs,f.type∈l)→xs.length=fs.length →
   (∀ (i:Nat) (f:Field),fs[i]?=some f→DataW.trod enc P W 0 spare held n f.type ((cs.drop f.offset).take (P.cellsOf f.type))=xs[i]?) →
   ∃ ps:List (List C),ps.length=fs.length∧bn (aaY W) ps.flatten (cs.drop o)∧(∀ u∈cs.drop o,u.oneCell'=true) ∧
    ∀ i (h0:i<fs.length) (h1:i<ps.length) (h2:i<(xs.map fun x=>Rows.uptoBulk x.1).length),Pl P fs[i].type ps[i] (xs.map fun x=>Rows.uptoBulk x.1)[i]
 | [],o,xs,ht,_,_,_=>by
  have:o=cs.length:=by simpa [ahe] using ht
  subst this
  exact⟨[],rfl,by simp[bn],by simp,fun i h0=>absurd h0 (Nat.not_lt_zero _)⟩
 | f::fs,o,[],_,_,hl,_=>by simp at hl
 | f::fs,o,x::xs,ht,hm,hl,hx=>by
  simp only[ahe,Bool.and_eq_true,beq_iff_eq] at ht
  obtain⟨rfl,ht⟩:=ht
  have h0:=hx 0 f rfl
  simp only[List.getElem?_cons_zero] at h0
  obtain⟨g,g1,g2,g3⟩:=ih _ _ _ (hm f (List.mem_cons_self ..)) h0
  obtain⟨ps,p1,p2,p3,p4⟩:=ajy ih cs fs (f.offset+P.cellsOf f.type) xs ht (fun q hq=>hm q (List.mem_cons_of_mem _ hq)) (by simpa using hl) (fun i q hq=>by simpa using hx (i+1) q (by simpa using hq))
  have hsplit:cs.drop f.offset=(cs.drop f.offset).take (P.cellsOf f.type)++cs.drop (f.offset+P.cellsOf f.type):=by
   rw[← List.drop_drop,List.take_append_drop]
  refine⟨g::ps,by simp[p1],?_,?_,?_⟩
  .rw[hsplit,List.flatten_cons]
   exact g1.append p2
  .intro u hu
   rw[hsplit,List.mem_append] at hu
   rcases hu with hu|hu
   .exact g2 u hu
   .exact p3 u hu
  .intro i h0 h1 h2
   cases i with
   | zero=>exact g3
   | succ i=>exact p4 i (by simpa using h0) (by simpa using h1) (by simpa using h2)
theorem amG {l:List TypeId} (hf:aIO P l=true):∀ (fuel:Nat) (t:TypeId) (cs:List Value) (x:DataW H×List MemPlace),t∈l→DataW.trod enc P W 0 spare held fuel t cs=some x→aUt P W t cs x.1
 | 0,t,cs,x,_,h=>by simp[DataW.trod] at h
 | fuel+1,t,cs,x,htl,h=>by
  have ih:=amG hf fuel
  have hft:=List.all_eq_true.1 hf t htl
  cases hu:P.underlying t with
  | none=>rw[hu] at hft;cases hft
  | some u =>
   rw[hu] at hft
   cases u with
   | int k =>
    obtain⟨n,rfl,rfl,hw⟩:=DataW.trod_int hu h
    exact⟨[.lit (.int k n)],⟨_,_,rfl,⟨rfl,rfl⟩,rfl⟩,by simp[Value.oneCell'],.int hu hw (Nat.le_refl 1)⟩
   | bool =>
    obtain⟨b,rfl,rfl⟩:=DataW.trod_bool hu h
    exact⟨[.lit (.bool b)],⟨_,_,rfl,⟨rfl,rfl⟩,rfl⟩,by simp[Value.oneCell'],.bool hu (Nat.le_refl 1)⟩
   | string =>
    obtain⟨s,rfl,rfl,_⟩:=DataW.trod_string hu h
    exact⟨[.lit (.string s)],⟨_,_,rfl,⟨rfl,rfl⟩,rfl⟩,by simp[Value.oneCell'],.str hu (Nat.le_of_eq rfl)⟩
   | slice e =>
    simp only[Bool.and_eq_true,List.contains_iff_mem,decide_eq_true_eq] at hft
    rcases DataW.trod_slice hu h with ⟨rfl,rfl⟩|⟨a,len,cap,elems,rest,n,hfu,rfl,rfl,_,hle,_,hlen,hel,_,_⟩
    .exact⟨[.sl [] 0],⟨_,_,rfl,⟨none,0,[],rfl,Nat.le_refl _,rfl,fun h=>absurd rfl h⟩,rfl⟩,by simp[Value.oneCell'],.slice (ps:=[]) (ws:=[]) hu rfl rfl (fun i h1=>absurd h1 (Nat.not_lt_zero _)) (fun i h1=>absurd h1 (Nat.not_lt_zero _)) (fun i h1=>absurd h1 (Nat.not_lt_zero _)) (Nat.le_refl _)⟩
    .obtain rfl:fuel=n:=by omega
     subst hlen
     have hv:∀ i:Nat,∃ p:List Value×List C,∀ hi:i<elems.length,W.cells? 0 (a.add (i*P.cellsOf e)) (P.cellsOf e)=some p.1∧bn (aaY W) p.2 p.1∧(∀ u∈p.1,u.oneCell'=true)∧Pl P e p.2 (Rows.uptoBulk elems[i].1):=fun i=>by
      by_cases hi:i<elems.length
      .have h0:=hel i hi
       rw[List.getElem?_eq_getElem hi,Option.bind_eq_some_iff] at h0
       obtain⟨cs',h1,h2⟩:=h0
       obtain⟨g,g1,g2,g3⟩:=ih _ _ _ hft.1 h2
       exact⟨(cs',g),fun _=>⟨h1,g1,g2,g3⟩⟩
      .exact⟨([],[]),fun h=>absurd h hi⟩
     obtain⟨F,hF⟩:=Classical.axiomOfChoice hv
     refine⟨[.sl ((List.range elems.length).map fun i=>(F i).2).flatten elems.length],⟨_,_,rfl,aBA hle hft.2 (fun i=>(F i).1) (fun i=>(F i).2) (fun i hi=>⟨(hF i hi).1,(hF i hi).2.1,(hF i hi).2.2.1⟩),rfl⟩,by simp[Value.oneCell'],?_⟩
     refine .slice (ws:=elems.map fun x=>Rows.uptoBulk x.1) hu (by simp) (by simp) (fun i h1 h2=>?_) (fun i h1=>?_) (fun i h2=>?_) ?_
     .simp only[List.getElem_map,List.getElem_range]
      exact (hF i (by simpa using h1)).2.2.2
     .simp only[List.getElem_map,List.getElem_range]
      obtain⟨q1,q2,_⟩:=hF i (by simpa using h1)
      rw[← q2.length]
      exact (World.cells?_some q1).2.1
     .simp only[List.getElem_map]
      exact aqS _
     .simp only[Rows.uptoBulk]
      rw[akn]
      omega
   | struct fs =>
    obtain⟨xs,n,hfu,rfl,hlen,hxl,hx⟩:=DataW.trod_struct hu h
    obtain rfl:fuel=n:=by omega
    simp only[Bool.and_eq_true,List.all_eq_true,List.contains_iff_mem] at hft
    obtain⟨ps,p1,p2,p3,p4⟩:=ajy ih cs fs.toList 0 xs (by rw[hlen];exact hft.2) hft.1 (by simpa using hxl) (fun i f hi=>hx i f (by simpa using hi))
    refine⟨ps.flatten,by simpa using p2,by simpa using p3,.struct (ws:=xs.map fun x=>Rows.uptoBulk x.1) hu p1 (by simpa using hxl) p4 ?_⟩
    simp only[Rows.uptoBulk]
    rw[akn]
    exact Nat.le_refl _
   | _=>cases hft
end
section
variable {P:Program} {t:TypeId} {cs:List C} {m:Nat}
theorem Pl.pos (h:Pl P t cs m):1≤m:=by
 cases h <;> omega
theorem Pl.int_inv (h:Pl P t cs m) (hu:P.underlying t=some (.int .i64)):∃ n:Int,cs=[ci n]∧-9223372036854775808≤n∧n≤9223372036854775807:=by
 cases h with
 | int hu' hw hm =>
  rw[hu] at hu'
  cases hu'
  have:IntKind.i64.min=-9223372036854775808:=rfl
  have:IntKind.i64.max=9223372036854775807:=rfl
  refine⟨_,rfl,?_⟩
  simp[Lit.wf,IntKind.wrap_i64] at hw
  omega
 | bool hu'=>rw[hu] at hu';cases hu'
 | str hu'=>rw[hu] at hu';cases hu'
 | slice hu'=>rw[hu] at hu';cases hu'
 | struct hu'=>rw[hu] at hu';cases hu'
theorem Pl.str_inv (h:Pl P t cs m) (hu:P.underlying t=some .string):∃ s:ByteArray,cs=[ao s]∧s.size+1≤m:=by
 cases h with
 | str hu' hm=>exact⟨_,rfl,hm⟩
 | int hu'=>rw[hu] at hu';cases hu'
 | bool hu'=>rw[hu] at hu';cases hu'
 | slice hu'=>rw[hu] at hu';cases hu'
 | struct hu'=>rw[hu] at hu';cases hu'
theorem Pl.bool_inv (h:Pl P t cs m) (hu:P.underlying t=some .bool):∃ b:Bool,cs=[cb b]:=by
 cases h with
 | bool hu'=>exact⟨_,rfl⟩
 | int hu'=>rw[hu] at hu';cases hu'
 | str hu'=>rw[hu] at hu';cases hu'
 | slice hu'=>rw[hu] at hu';cases hu'
 | struct hu'=>rw[hu] at hu';cases hu'
theorem Pl.slice_inv {e:TypeId} (h:Pl P t cs m) (hu:P.underlying t=some (.slice e)):∃ (ps:List (List C)) (ws:List Nat),cs=[.sl ps.flatten ps.length]∧ws.length=ps.length ∧
  (∀ i (h1:i<ps.length) (h2:i<ws.length),Pl P e ps[i] ws[i])∧ws.sum+1≤m:=by
 cases h with
 | slice hu' hp hl h hc hn hm =>
  rw[hu] at hu'
  cases hu'
  subst hp
  exact⟨_,_,rfl,hl,h,hm⟩
 | int hu'=>rw[hu] at hu';cases hu'
 | str hu'=>rw[hu] at hu';cases hu'
 | bool hu'=>rw[hu] at hu';cases hu'
 | struct hu'=>rw[hu] at hu';cases hu'
theorem Pl.struct_inv {fs:Array Field} (h:Pl P t cs m) (hu:P.underlying t=some (.struct fs)):∃ (ps:List (List C)) (ws:List Nat),cs=ps.flatten∧ps.length=fs.toList.length∧ws.length=fs.toList.length ∧
  (∀ i (h0:i<fs.toList.length) (h1:i<ps.length) (h2:i<ws.length),Pl P fs.toList[i].type ps[i] ws[i])∧ws.sum+1≤m:=by
 cases h with
 | struct hu' hp hl h hm =>
  rw[hu] at hu'
  cases hu'
  exact⟨_,_,rfl,hp,hl,h,hm⟩
 | int hu'=>rw[hu] at hu';cases hu'
 | str hu'=>rw[hu] at hu';cases hu'
 | bool hu'=>rw[hu] at hu';cases hu'
 | slice hu'=>rw[hu] at hu';cases hu'
theorem Pl.one_inv {e:TypeId} (h:Pl P t cs m) (hu:P.underlying t=some (.slice e)):∃ c:C,cs=[c]:=by
 obtain⟨ps,_,rfl,_⟩:=h.slice_inv hu
 exact⟨_,rfl⟩
theorem axh {α:Type} {f:α→List C} {Q:Nat→α→Prop} {w:α→Nat}:∀ (ps:List (List C)) (ws:List Nat),ws.length=ps.length →
  (∀ i (h1:i<ps.length) (h2:i<ws.length),∃ x:α,ps[i]=f x∧w x≤ws[i]∧Q ws[i] x) →
  ∃ l:List α,ps=l.map f∧(l.map w).sum≤ws.sum∧∀ x∈l,∃ k,k≤ws.sum∧Q k x
 | [],[],_,_=>⟨[],rfl,Nat.le_refl _,fun x hx=>by cases hx⟩
 | p::ps,[],h,_=>by simp at h
 | [],q::ws,h,_=>by simp at h
 | p::ps,q::ws,h,hx=>by
  obtain⟨x,x1,x2,x3⟩:=hx 0 (by simp) (by simp)
  obtain⟨l,l1,l2,l3⟩:=axh ps ws (by simpa using h) fun i h1 h2=>hx (i+1) (Nat.succ_lt_succ h1) (Nat.succ_lt_succ h2)
  simp only[List.getElem_cons_zero] at x1 x2 x3
  refine⟨x::l,by simp[x1,l1],by simp only[List.map_cons,List.sum_cons];omega,fun y hy=>?_⟩
  rcases List.mem_cons.1 hy with rfl|hy
  .exact⟨q,by simp only[List.sum_cons];omega,x3⟩
  .obtain⟨k,k1,k2⟩:=l3 y hy
   exact⟨k,by simp only[List.sum_cons];omega,k2⟩
end
end Go.Proofs.YtjajlmjfddohfaaGreatDoor
namespace Go.Proofs.YtjajlmjfddohfaaGreatDoor
open Go Go.Pe Go.Tab Go.RowKit Go.ChangeShapes Go.Deep
theorem aLp (s:ByteArray):∃ l:List UInt8,s=ar l∧l.length=s.size:=⟨s.data.toList,by simp[ar],by simp⟩
theorem aB {α:Type} {l:List α} {n:Nat} (h:l.length=n+1):∃ a r,l=a::r∧r.length=n:=by
 cases l with
 | nil=>cases h
 | cons a r=>exact⟨a,r,rfl,Nat.succ.inj h⟩
def bc {α:Type} (t:TypeId) (f:α→List C) (w:α→Nat) (q:α→Prop) (n:Nat):Prop:=∀ cs m,m<n→Pl Tryz.prog t cs m→∃ x,cs=f x∧w x≤m∧q x
theorem bc.mono {α:Type} {t:TypeId} {f:α→List C} {w:α→Nat} {q:α→Prop} {n k:Nat} (h:bc t f w q n) (hk:k≤n):bc t f w q k:=fun cs m hm hp=>h cs m (by omega) hp
theorem bc.list {α:Type} {t e:TypeId} {f:α→List C} {w:α→Nat} {q:α→Prop} {n:Nat} (h:bc e f w q n) (hu:Tryz.prog.underlying t=some (.slice e)):bc t (lsC f) (lsW w) (lsP q) (n+1):=by
 intro cs m hm hp
 obtain⟨ps,ws,rfl,hl,hx,hs⟩:=hp.slice_inv hu
 obtain⟨l,rfl,l2,l3⟩:=axh (f:=f) (w:=w) (Q:=fun _ x=>q x) ps ws hl fun i h1 h2=>by
  have h3:ws[i]≤ws.sum:=by
   have:=List.getElem_mem h2
   generalize ws[i]=x at this
   clear hx hs hl h2
   induction ws with
   | nil=>cases this
   | cons a r ih =>
    rw[List.sum_cons]
    rcases List.mem_cons.1 this with rfl|h
    .omega
    .have:=ih h
     omega
  exact h _ _ (by omega) (hx i h1 h2)
 exact⟨l,by simp[lsC,slC,fl],by unfold lsW;omega,fun x hx=>by obtain⟨_,_,h⟩:=l3 x hx;exact h⟩
theorem iM (n:Nat):bc 3 aV bG I64 n:=fun cs m _ hp=>by
 obtain⟨x,rfl,h⟩:=hp.int_inv Tryz.underlying3
 exact⟨x,rfl,hp.pos,h⟩
theorem aar (n:Nat):bc 4 eP bG bU n:=fun cs m _ hp=>by
 obtain⟨x,rfl⟩:=hp.bool_inv Tryz.underlying4
 exact⟨x,rfl,hp.pos,trivial⟩
theorem gn (n:Nat):bc 9 bd aZ bU n:=fun cs m _ hp=>by
 obtain⟨s,rfl,h⟩:=hp.str_inv Tryz.underlying9
 obtain⟨l,rfl,e⟩:=aLp s
 exact⟨l,rfl,by unfold aZ;omega,trivial⟩
theorem aTz (n:Nat):bc 86 aay ap5 V64 n:=by
 intro cs m _ h
 obtain⟨ps,ws,rfl,hp,hl,hx,hm⟩:=h.struct_inv Tryz.underlying86
 match ps,hp,ws,hl with
 | [p0,p1,p2],_,[w0,w1,w2],_ =>
  obtain⟨k,k1,k2⟩:=(hx 0 (by decide) (by simp) (by simp)).int_inv Tryz.underlying3
  obtain⟨n,n1,n2⟩:=(hx 1 (by decide) (by simp) (by simp)).int_inv Tryz.underlying3
  obtain⟨s,s1,s2⟩:=(hx 2 (by decide) (by simp) (by simp)).str_inv Tryz.underlying9
  have q0:=(hx 0 (by decide) (by simp) (by simp)).pos
  have q1:=(hx 1 (by decide) (by simp) (by simp)).pos
  simp only[List.getElem_cons_zero,List.getElem_cons_succ] at k1 n1 s1 s2 q0 q1
  subst k1;subst n1;subst s1
  simp only[List.sum_cons,List.sum_nil] at hm
  exact⟨⟨k,n,s⟩,rfl,by show s.size+4≤m;omega,k2,n2⟩
theorem a2m (n:Nat):bc 219 odC odW aAH n:=by
 intro cs m hm h
 obtain⟨ps,ws,rfl,hp,hl,hx,hs⟩:=h.struct_inv Tryz.underlying219
 have hp':ps.length=3:=hp
 have hl':ws.length=3:=hl
 clear hp hl
 obtain⟨p0,pt0,rfl,pq0⟩:=aB hp'
 obtain⟨p1,pt1,rfl,pq1⟩:=aB pq0
 obtain⟨p2,pt2,rfl,pq2⟩:=aB pq1
 obtain rfl:pt2=[]:=List.eq_nil_of_length_eq_zero pq2
 obtain⟨w0,wt0,rfl,wq0⟩:=aB hl'
 obtain⟨w1,wt1,rfl,wq1⟩:=aB wq0
 obtain⟨w2,wt2,rfl,wq2⟩:=aB wq1
 obtain rfl:wt2=[]:=List.eq_nil_of_length_eq_zero wq2
 have h0:=hx 0 (by decide) (by simp) (by simp)
 have h1:=hx 1 (by decide) (by simp) (by simp)
 have h2:=hx 2 (by decide) (by simp) (by simp)
 simp only[List.getElem_cons_zero,List.getElem_cons_succ] at h0 h1 h2
 simp only[List.sum_cons,List.sum_nil] at hs
 obtain⟨x0,rfl,a0,b0⟩:=(show bc 9 bd aZ bU (m+1) from gn _) _ _ (by omega) h0
 obtain⟨x1,rfl,a1,b1⟩:=(show bc 3 aV bG I64 (m+1) from iM _) _ _ (by omega) h1
 obtain⟨x2,rfl,a2,b2⟩:=(show bc 4 eP bG bU (m+1) from aar _) _ _ (by omega) h2
 refine⟨⟨x0,x1,x2⟩,?_,?_,?_⟩
 .simp[odC]
 .simp only[odW]
  omega
 .exact⟨b0,b1,b2⟩
theorem aEA (n:Nat) (hyXp:bc 88 xpC xpW d8 n) (hyQy:bc 168 qyC qyW jX n):bc 88 xpC xpW d8 (n+1):=by
 intro cs m hm h
 obtain⟨ps,ws,rfl,hp,hl,hx,hs⟩:=h.struct_inv Tryz.underlying88
 have hp':ps.length=7:=hp
 have hl':ws.length=7:=hl
 clear hp hl
 obtain⟨p0,pt0,rfl,pq0⟩:=aB hp'
 obtain⟨p1,pt1,rfl,pq1⟩:=aB pq0
 obtain⟨p2,pt2,rfl,pq2⟩:=aB pq1
 obtain⟨p3,pt3,rfl,pq3⟩:=aB pq2
 obtain⟨p4,pt4,rfl,pq4⟩:=aB pq3
 obtain⟨p5,pt5,rfl,pq5⟩:=aB pq4
 obtain⟨p6,pt6,rfl,pq6⟩:=aB pq5
 obtain rfl:pt6=[]:=List.eq_nil_of_length_eq_zero pq6
 obtain⟨w0,wt0,rfl,wq0⟩:=aB hl'
 obtain⟨w1,wt1,rfl,wq1⟩:=aB wq0
 obtain⟨w2,wt2,rfl,wq2⟩:=aB wq1
 obtain⟨w3,wt3,rfl,wq3⟩:=aB wq2
 obtain⟨w4,wt4,rfl,wq4⟩:=aB wq3
 obtain⟨w5,wt5,rfl,wq5⟩:=aB wq4
 obtain⟨w6,wt6,rfl,wq6⟩:=aB wq5
 obtain rfl:wt6=[]:=List.eq_nil_of_length_eq_zero wq6
 have h0:=hx 0 (by decide) (by simp) (by simp)
 have h1:=hx 1 (by decide) (by simp) (by simp)
 have h2:=hx 2 (by decide) (by simp) (by simp)
 have h3:=hx 3 (by decide) (by simp) (by simp)
 have h4:=hx 4 (by decide) (by simp) (by simp)
 have h5:=hx 5 (by decide) (by simp) (by simp)
 have h6:=hx 6 (by decide) (by simp) (by simp)
 simp only[List.getElem_cons_zero,List.getElem_cons_succ] at h0 h1 h2 h3 h4 h5 h6
 simp only[List.sum_cons,List.sum_nil] at hs
 obtain⟨x0,rfl,a0,b0⟩:=(show bc 3 aV bG I64 n from iM _) _ _ (by omega) h0
 obtain⟨x1,rfl,a1,b1⟩:=(show bc 86 aay ap5 V64 n from aTz _) _ _ (by omega) h1
 obtain⟨x2,rfl,a2,b2⟩:=(show bc 9 bd aZ bU n from gn _) _ _ (by omega) h2
 obtain⟨x3,rfl,a3,b3⟩:=(show bc 9 bd aZ bU n from gn _) _ _ (by omega) h3
 obtain⟨x4,rfl,a4,b4⟩:=(show bc 4 eP bG bU n from aar _) _ _ (by omega) h4
 obtain⟨x5,rfl,a5,b5⟩:=(show bc 33 (lsC xpC) (lsW xpW) (lsP d8) n from (bc.list (hyXp) Tryz.underlying33).mono (Nat.le_succ _)) _ _ (by omega) h5
 obtain⟨x6,rfl,a6,b6⟩:=(show bc 36 (lsC qyC) (lsW qyW) (lsP jX) n from (bc.list (hyQy) Tryz.underlying36).mono (Nat.le_succ _)) _ _ (by omega) h6
 refine⟨(.mk x0 x1 x2 x3 x4 x5 x6),?_,?_,?_⟩
 .rw[akA]
  simp[Xp.op,Xp.v,Xp.tb,Xp.nm,Xp.di,Xp.ks,Xp.sb]
 .rw[jB]
  simp only[Xp.op,Xp.v,Xp.tb,Xp.nm,Xp.di,Xp.ks,Xp.sb]
  omega
 .rw[ax3]
  exact⟨b0,b1,b2,b3,b4,b5,b6⟩
theorem aEB (n:Nat) (hyXp:bc 88 xpC xpW d8 n) (hyQy:bc 168 qyC qyW jX n) (hyIm:bc 188 imC imW aew n) (hyFm:bc 210 fmC fmW abc n):bc 168 qyC qyW jX (n+1):=by
 intro cs m hm h
 obtain⟨ps,ws,rfl,hp,hl,hx,hs⟩:=h.struct_inv Tryz.underlying168
 have hp':ps.length=12:=hp
 have hl':ws.length=12:=hl
 clear hp hl
 obtain⟨p0,pt0,rfl,pq0⟩:=aB hp'
 obtain⟨p1,pt1,rfl,pq1⟩:=aB pq0
 obtain⟨p2,pt2,rfl,pq2⟩:=aB pq1
 obtain⟨p3,pt3,rfl,pq3⟩:=aB pq2
 obtain⟨p4,pt4,rfl,pq4⟩:=aB pq3
 obtain⟨p5,pt5,rfl,pq5⟩:=aB pq4
 obtain⟨p6,pt6,rfl,pq6⟩:=aB pq5
 obtain⟨p7,pt7,rfl,pq7⟩:=aB pq6
 obtain⟨p8,pt8,rfl,pq8⟩:=aB pq7
 obtain⟨p9,pt9,rfl,pq9⟩:=aB pq8
 obtain⟨p10,pt10,rfl,pq10⟩:=aB pq9
 obtain⟨p11,pt11,rfl,pq11⟩:=aB pq10
 obtain rfl:pt11=[]:=List.eq_nil_of_length_eq_zero pq11
 obtain⟨w0,wt0,rfl,wq0⟩:=aB hl'
 obtain⟨w1,wt1,rfl,wq1⟩:=aB wq0
 obtain⟨w2,wt2,rfl,wq2⟩:=aB wq1
 obtain⟨w3,wt3,rfl,wq3⟩:=aB wq2
 obtain⟨w4,wt4,rfl,wq4⟩:=aB wq3
 obtain⟨w5,wt5,rfl,wq5⟩:=aB wq4
 obtain⟨w6,wt6,rfl,wq6⟩:=aB wq5
 obtain⟨w7,wt7,rfl,wq7⟩:=aB wq6
 obtain⟨w8,wt8,rfl,wq8⟩:=aB wq7
 obtain⟨w9,wt9,rfl,wq9⟩:=aB wq8
 obtain⟨w10,wt10,rfl,wq10⟩:=aB wq9
 obtain⟨w11,wt11,rfl,wq11⟩:=aB wq10
 obtain rfl:wt11=[]:=List.eq_nil_of_length_eq_zero wq11
 have h0:=hx 0 (by decide) (by simp) (by simp)
 have h1:=hx 1 (by decide) (by simp) (by simp)
 have h2:=hx 2 (by decide) (by simp) (by simp)
 have h3:=hx 3 (by decide) (by simp) (by simp)
 have h4:=hx 4 (by decide) (by simp) (by simp)
 have h5:=hx 5 (by decide) (by simp) (by simp)
 have h6:=hx 6 (by decide) (by simp) (by simp)
 have h7:=hx 7 (by decide) (by simp) (by simp)
 have h8:=hx 8 (by decide) (by simp) (by simp)
 have h9:=hx 9 (by decide) (by simp) (by simp)
 have h10:=hx 10 (by decide) (by simp) (by simp)
 have h11:=hx 11 (by decide) (by simp) (by simp)
 simp only[List.getElem_cons_zero,List.getElem_cons_succ] at h0 h1 h2 h3 h4 h5 h6 h7 h8 h9 h10 h11
 simp only[List.sum_cons,List.sum_nil] at hs
 obtain⟨x0,rfl,a0,b0⟩:=(show bc 3 aV bG I64 n from iM _) _ _ (by omega) h0
 obtain⟨x1,rfl,a1,b1⟩:=(show bc 4 eP bG bU n from aar _) _ _ (by omega) h1
 obtain⟨x2,rfl,a2,b2⟩:=(show bc 36 (lsC qyC) (lsW qyW) (lsP jX) n from (bc.list (hyQy) Tryz.underlying36).mono (Nat.le_succ _)) _ _ (by omega) h2
 obtain⟨x3,rfl,a3,b3⟩:=(show bc 4 eP bG bU n from aar _) _ _ (by omega) h3
 obtain⟨x4,rfl,a4,b4⟩:=(show bc 164 (lsC imC) (lsW imW) (lsP aew) n from (bc.list (hyIm) Tryz.underlying164).mono (Nat.le_succ _)) _ _ (by omega) h4
 obtain⟨x5,rfl,a5,b5⟩:=(show bc 165 (lsC fmC) (lsW fmW) (lsP abc) n from (bc.list (hyFm) Tryz.underlying165).mono (Nat.le_succ _)) _ _ (by omega) h5
 obtain⟨x6,rfl,a6,b6⟩:=(show bc 33 (lsC xpC) (lsW xpW) (lsP d8) n from (bc.list (hyXp) Tryz.underlying33).mono (Nat.le_succ _)) _ _ (by omega) h6
 obtain⟨x7,rfl,a7,b7⟩:=(show bc 33 (lsC xpC) (lsW xpW) (lsP d8) n from (bc.list (hyXp) Tryz.underlying33).mono (Nat.le_succ _)) _ _ (by omega) h7
 obtain⟨x8,rfl,a8,b8⟩:=(show bc 33 (lsC xpC) (lsW xpW) (lsP d8) n from (bc.list (hyXp) Tryz.underlying33).mono (Nat.le_succ _)) _ _ (by omega) h8
 obtain⟨x9,rfl,a9,b9⟩:=(show bc 166 (lsC odC) (lsW odW) (lsP aAH) n from (bc.list (a2m _) Tryz.underlying166).mono (Nat.le_succ _)) _ _ (by omega) h9
 obtain⟨x10,rfl,a10,b10⟩:=(show bc 3 aV bG I64 n from iM _) _ _ (by omega) h10
 obtain⟨x11,rfl,a11,b11⟩:=(show bc 3 aV bG I64 n from iM _) _ _ (by omega) h11
 refine⟨(.mk x0 x1 x2 x3 x4 x5 x6 x7 x8 x9 x10 x11),?_,?_,?_⟩
 .rw[aBK]
  simp[Qy.op,Qy.al,Qy.ks,Qy.di,Qy.its,Qy.fr,Qy.wh,Qy.gr,Qy.hv,Qy.od,Qy.li,Qy.sk]
 .rw[gI]
  simp only[Qy.op,Qy.al,Qy.ks,Qy.di,Qy.its,Qy.fr,Qy.wh,Qy.gr,Qy.hv,Qy.od,Qy.li,Qy.sk]
  omega
 .rw[ax4]
  exact⟨b0,b1,b2,b3,b4,b5,b6,b7,b8,b9,b10,b11⟩
theorem aEC (n:Nat) (hyXp:bc 88 xpC xpW d8 n):bc 188 imC imW aew (n+1):=by
 intro cs m hm h
 obtain⟨ps,ws,rfl,hp,hl,hx,hs⟩:=h.struct_inv Tryz.underlying188
 have hp':ps.length=4:=hp
 have hl':ws.length=4:=hl
 clear hp hl
 obtain⟨p0,pt0,rfl,pq0⟩:=aB hp'
 obtain⟨p1,pt1,rfl,pq1⟩:=aB pq0
 obtain⟨p2,pt2,rfl,pq2⟩:=aB pq1
 obtain⟨p3,pt3,rfl,pq3⟩:=aB pq2
 obtain rfl:pt3=[]:=List.eq_nil_of_length_eq_zero pq3
 obtain⟨w0,wt0,rfl,wq0⟩:=aB hl'
 obtain⟨w1,wt1,rfl,wq1⟩:=aB wq0
 obtain⟨w2,wt2,rfl,wq2⟩:=aB wq1
 obtain⟨w3,wt3,rfl,wq3⟩:=aB wq2
 obtain rfl:wt3=[]:=List.eq_nil_of_length_eq_zero wq3
 have h0:=hx 0 (by decide) (by simp) (by simp)
 have h1:=hx 1 (by decide) (by simp) (by simp)
 have h2:=hx 2 (by decide) (by simp) (by simp)
 have h3:=hx 3 (by decide) (by simp) (by simp)
 simp only[List.getElem_cons_zero,List.getElem_cons_succ] at h0 h1 h2 h3
 simp only[List.sum_cons,List.sum_nil] at hs
 obtain⟨x0,rfl,a0,b0⟩:=(show bc 4 eP bG bU n from aar _) _ _ (by omega) h0
 obtain⟨x1,rfl,a1,b1⟩:=(show bc 9 bd aZ bU n from gn _) _ _ (by omega) h1
 obtain⟨x2,rfl,a2,b2⟩:=(show bc 88 xpC xpW d8 n from hyXp) _ _ (by omega) h2
 obtain⟨x3,rfl,a3,b3⟩:=(show bc 9 bd aZ bU n from gn _) _ _ (by omega) h3
 refine⟨(.mk x0 x1 x2 x3),?_,?_,?_⟩
 .rw[aEh]
  simp[Im.st,Im.tb,Im.e,Im.az]
 .rw[abo]
  simp only[Im.st,Im.tb,Im.e,Im.az]
  omega
 .rw[ax5]
  exact⟨b0,b1,b2,b3⟩
theorem aED (n:Nat) (hyXp:bc 88 xpC xpW d8 n) (hyQy:bc 168 qyC qyW jX n) (hyFm:bc 210 fmC fmW abc n):bc 210 fmC fmW abc (n+1):=by
 intro cs m hm h
 obtain⟨ps,ws,rfl,hp,hl,hx,hs⟩:=h.struct_inv Tryz.underlying210
 have hp':ps.length=6:=hp
 have hl':ws.length=6:=hl
 clear hp hl
 obtain⟨p0,pt0,rfl,pq0⟩:=aB hp'
 obtain⟨p1,pt1,rfl,pq1⟩:=aB pq0
 obtain⟨p2,pt2,rfl,pq2⟩:=aB pq1
 obtain⟨p3,pt3,rfl,pq3⟩:=aB pq2
 obtain⟨p4,pt4,rfl,pq4⟩:=aB pq3
 obtain⟨p5,pt5,rfl,pq5⟩:=aB pq4
 obtain rfl:pt5=[]:=List.eq_nil_of_length_eq_zero pq5
 obtain⟨w0,wt0,rfl,wq0⟩:=aB hl'
 obtain⟨w1,wt1,rfl,wq1⟩:=aB wq0
 obtain⟨w2,wt2,rfl,wq2⟩:=aB wq1
 obtain⟨w3,wt3,rfl,wq3⟩:=aB wq2
 obtain⟨w4,wt4,rfl,wq4⟩:=aB wq3
 obtain⟨w5,wt5,rfl,wq5⟩:=aB wq4
 obtain rfl:wt5=[]:=List.eq_nil_of_length_eq_zero wq5
 have h0:=hx 0 (by decide) (by simp) (by simp)
 have h1:=hx 1 (by decide) (by simp) (by simp)
 have h2:=hx 2 (by decide) (by simp) (by simp)
 have h3:=hx 3 (by decide) (by simp) (by simp)
 have h4:=hx 4 (by decide) (by simp) (by simp)
 have h5:=hx 5 (by decide) (by simp) (by simp)
 simp only[List.getElem_cons_zero,List.getElem_cons_succ] at h0 h1 h2 h3 h4 h5
 simp only[List.sum_cons,List.sum_nil] at hs
 obtain⟨x0,rfl,a0,b0⟩:=(show bc 3 aV bG I64 n from iM _) _ _ (by omega) h0
 obtain⟨x1,rfl,a1,b1⟩:=(show bc 9 bd aZ bU n from gn _) _ _ (by omega) h1
 obtain⟨x2,rfl,a2,b2⟩:=(show bc 9 bd aZ bU n from gn _) _ _ (by omega) h2
 obtain⟨x3,rfl,a3,b3⟩:=(show bc 36 (lsC qyC) (lsW qyW) (lsP jX) n from (bc.list (hyQy) Tryz.underlying36).mono (Nat.le_succ _)) _ _ (by omega) h3
 obtain⟨x4,rfl,a4,b4⟩:=(show bc 165 (lsC fmC) (lsW fmW) (lsP abc) n from (bc.list (hyFm) Tryz.underlying165).mono (Nat.le_succ _)) _ _ (by omega) h4
 obtain⟨x5,rfl,a5,b5⟩:=(show bc 33 (lsC xpC) (lsW xpW) (lsP d8) n from (bc.list (hyXp) Tryz.underlying33).mono (Nat.le_succ _)) _ _ (by omega) h5
 refine⟨(.mk x0 x1 x2 x3 x4 x5),?_,?_,?_⟩
 .rw[aEq]
  simp[Fm.kd,Fm.nm,Fm.az,Fm.sb,Fm.ks,Fm.on]
 .rw[gK]
  simp only[Fm.kd,Fm.nm,Fm.az,Fm.sb,Fm.ks,Fm.on]
  omega
 .rw[ax6]
  exact⟨b0,b1,b2,b3,b4,b5⟩
theorem akj:∀ n,bc 88 xpC xpW d8 n∧bc 168 qyC qyW jX n∧bc 188 imC imW aew n∧bc 210 fmC fmW abc n
 | 0=>⟨fun _ _ h=>absurd h (Nat.not_lt_zero _),fun _ _ h=>absurd h (Nat.not_lt_zero _),fun _ _ h=>absurd h (Nat.not_lt_zero _),fun _ _ h=>absurd h (Nat.not_lt_zero _)⟩
 | n+1=>by
  obtain⟨hyXp,hyQy,hyIm,hyFm⟩:=akj n
  exact⟨aEA n hyXp hyQy,aEB n hyXp hyQy hyIm hyFm,aEC n hyXp,aED n hyXp hyQy hyFm⟩
theorem arM (n:Nat):bc 88 xpC xpW d8 n:=(akj n).1
theorem a2l (n:Nat):bc 168 qyC qyW jX n:=(akj n).2.1
theorem aTB (n:Nat):bc 53 cdC cdW asF n:=by
 intro cs m hm h
 obtain⟨ps,ws,rfl,hp,hl,hx,hs⟩:=h.struct_inv Tryz.underlying53
 have hp':ps.length=3:=hp
 have hl':ws.length=3:=hl
 clear hp hl
 obtain⟨p0,pt0,rfl,pq0⟩:=aB hp'
 obtain⟨p1,pt1,rfl,pq1⟩:=aB pq0
 obtain⟨p2,pt2,rfl,pq2⟩:=aB pq1
 obtain rfl:pt2=[]:=List.eq_nil_of_length_eq_zero pq2
 obtain⟨w0,wt0,rfl,wq0⟩:=aB hl'
 obtain⟨w1,wt1,rfl,wq1⟩:=aB wq0
 obtain⟨w2,wt2,rfl,wq2⟩:=aB wq1
 obtain rfl:wt2=[]:=List.eq_nil_of_length_eq_zero wq2
 have h0:=hx 0 (by decide) (by simp) (by simp)
 have h1:=hx 1 (by decide) (by simp) (by simp)
 have h2:=hx 2 (by decide) (by simp) (by simp)
 simp only[List.getElem_cons_zero,List.getElem_cons_succ] at h0 h1 h2
 simp only[List.sum_cons,List.sum_nil] at hs
 obtain⟨x0,rfl,a0,b0⟩:=(show bc 9 bd aZ bU (m+1) from gn _) _ _ (by omega) h0
 obtain⟨x1,rfl,a1,b1⟩:=(show bc 3 aV bG I64 (m+1) from iM _) _ _ (by omega) h1
 obtain⟨x2,rfl,a2,b2⟩:=(show bc 4 eP bG bU (m+1) from aar _) _ _ (by omega) h2
 refine⟨⟨x0,x1,x2⟩,?_,?_,?_⟩
 .simp[cdC]
 .simp only[cdW]
  omega
 .exact⟨b0,b1,b2⟩
theorem a2o (n:Nat):bc 55 kdC kdW aHO n:=by
 intro cs m hm h
 obtain⟨ps,ws,rfl,hp,hl,hx,hs⟩:=h.struct_inv Tryz.underlying55
 have hp':ps.length=2:=hp
 have hl':ws.length=2:=hl
 clear hp hl
 obtain⟨p0,pt0,rfl,pq0⟩:=aB hp'
 obtain⟨p1,pt1,rfl,pq1⟩:=aB pq0
 obtain rfl:pt1=[]:=List.eq_nil_of_length_eq_zero pq1
 obtain⟨w0,wt0,rfl,wq0⟩:=aB hl'
 obtain⟨w1,wt1,rfl,wq1⟩:=aB wq0
 obtain rfl:wt1=[]:=List.eq_nil_of_length_eq_zero wq1
 have h0:=hx 0 (by decide) (by simp) (by simp)
 have h1:=hx 1 (by decide) (by simp) (by simp)
 simp only[List.getElem_cons_zero,List.getElem_cons_succ] at h0 h1
 simp only[List.sum_cons,List.sum_nil] at hs
 obtain⟨x0,rfl,a0,b0⟩:=(show bc 4 eP bG bU (m+1) from aar _) _ _ (by omega) h0
 obtain⟨x1,rfl,a1,b1⟩:=(show bc 30 (lsC bd) (lsW aZ) (lsP bU) (m+1) from (bc.list (gn _) Tryz.underlying30).mono (Nat.le_succ _)) _ _ (by omega) h1
 refine⟨⟨x0,x1⟩,?_,?_,?_⟩
 .simp[kdC]
 .simp only[kdW]
  omega
 .exact⟨b0,b1⟩
theorem a2k (n:Nat):bc 97 rdC rdW aHG n:=by
 intro cs m hm h
 obtain⟨ps,ws,rfl,hp,hl,hx,hs⟩:=h.struct_inv Tryz.underlying97
 have hp':ps.length=3:=hp
 have hl':ws.length=3:=hl
 clear hp hl
 obtain⟨p0,pt0,rfl,pq0⟩:=aB hp'
 obtain⟨p1,pt1,rfl,pq1⟩:=aB pq0
 obtain⟨p2,pt2,rfl,pq2⟩:=aB pq1
 obtain rfl:pt2=[]:=List.eq_nil_of_length_eq_zero pq2
 obtain⟨w0,wt0,rfl,wq0⟩:=aB hl'
 obtain⟨w1,wt1,rfl,wq1⟩:=aB wq0
 obtain⟨w2,wt2,rfl,wq2⟩:=aB wq1
 obtain rfl:wt2=[]:=List.eq_nil_of_length_eq_zero wq2
 have h0:=hx 0 (by decide) (by simp) (by simp)
 have h1:=hx 1 (by decide) (by simp) (by simp)
 have h2:=hx 2 (by decide) (by simp) (by simp)
 simp only[List.getElem_cons_zero,List.getElem_cons_succ] at h0 h1 h2
 simp only[List.sum_cons,List.sum_nil] at hs
 obtain⟨x0,rfl,a0,b0⟩:=(show bc 30 (lsC bd) (lsW aZ) (lsP bU) (m+1) from (bc.list (gn _) Tryz.underlying30).mono (Nat.le_succ _)) _ _ (by omega) h0
 obtain⟨x1,rfl,a1,b1⟩:=(show bc 9 bd aZ bU (m+1) from gn _) _ _ (by omega) h1
 obtain⟨x2,rfl,a2,b2⟩:=(show bc 30 (lsC bd) (lsW aZ) (lsP bU) (m+1) from (bc.list (gn _) Tryz.underlying30).mono (Nat.le_succ _)) _ _ (by omega) h2
 refine⟨⟨x0,x1,x2⟩,?_,?_,?_⟩
 .simp[rdC]
 .simp only[rdW]
  omega
 .exact⟨b0,b1,b2⟩
theorem a2r (n:Nat):bc 143 asC asW aBb n:=by
 intro cs m hm h
 obtain⟨ps,ws,rfl,hp,hl,hx,hs⟩:=h.struct_inv Tryz.underlying143
 have hp':ps.length=2:=hp
 have hl':ws.length=2:=hl
 clear hp hl
 obtain⟨p0,pt0,rfl,pq0⟩:=aB hp'
 obtain⟨p1,pt1,rfl,pq1⟩:=aB pq0
 obtain rfl:pt1=[]:=List.eq_nil_of_length_eq_zero pq1
 obtain⟨w0,wt0,rfl,wq0⟩:=aB hl'
 obtain⟨w1,wt1,rfl,wq1⟩:=aB wq0
 obtain rfl:wt1=[]:=List.eq_nil_of_length_eq_zero wq1
 have h0:=hx 0 (by decide) (by simp) (by simp)
 have h1:=hx 1 (by decide) (by simp) (by simp)
 simp only[List.getElem_cons_zero,List.getElem_cons_succ] at h0 h1
 simp only[List.sum_cons,List.sum_nil] at hs
 obtain⟨x0,rfl,a0,b0⟩:=(show bc 9 bd aZ bU (m+1) from gn _) _ _ (by omega) h0
 obtain⟨x1,rfl,a1,b1⟩:=(show bc 88 xpC xpW d8 (m+1) from arM _) _ _ (by omega) h1
 refine⟨⟨x0,x1⟩,?_,?_,?_⟩
 .simp[asC]
 .simp only[asW]
  omega
 .exact⟨b0,b1⟩
theorem aTA (n:Nat):bc 38 smC smW fz n:=by
 intro cs m hm h
 obtain⟨ps,ws,rfl,hp,hl,hx,hs⟩:=h.struct_inv Tryz.underlying38
 have hp':ps.length=13:=hp
 have hl':ws.length=13:=hl
 clear hp hl
 obtain⟨p0,pt0,rfl,pq0⟩:=aB hp'
 obtain⟨p1,pt1,rfl,pq1⟩:=aB pq0
 obtain⟨p2,pt2,rfl,pq2⟩:=aB pq1
 obtain⟨p3,pt3,rfl,pq3⟩:=aB pq2
 obtain⟨p4,pt4,rfl,pq4⟩:=aB pq3
 obtain⟨p5,pt5,rfl,pq5⟩:=aB pq4
 obtain⟨p6,pt6,rfl,pq6⟩:=aB pq5
 obtain⟨p7,pt7,rfl,pq7⟩:=aB pq6
 obtain⟨p8,pt8,rfl,pq8⟩:=aB pq7
 obtain⟨p9,pt9,rfl,pq9⟩:=aB pq8
 obtain⟨p10,pt10,rfl,pq10⟩:=aB pq9
 obtain⟨p11,pt11,rfl,pq11⟩:=aB pq10
 obtain⟨p12,pt12,rfl,pq12⟩:=aB pq11
 obtain rfl:pt12=[]:=List.eq_nil_of_length_eq_zero pq12
 obtain⟨w0,wt0,rfl,wq0⟩:=aB hl'
 obtain⟨w1,wt1,rfl,wq1⟩:=aB wq0
 obtain⟨w2,wt2,rfl,wq2⟩:=aB wq1
 obtain⟨w3,wt3,rfl,wq3⟩:=aB wq2
 obtain⟨w4,wt4,rfl,wq4⟩:=aB wq3
 obtain⟨w5,wt5,rfl,wq5⟩:=aB wq4
 obtain⟨w6,wt6,rfl,wq6⟩:=aB wq5
 obtain⟨w7,wt7,rfl,wq7⟩:=aB wq6
 obtain⟨w8,wt8,rfl,wq8⟩:=aB wq7
 obtain⟨w9,wt9,rfl,wq9⟩:=aB wq8
 obtain⟨w10,wt10,rfl,wq10⟩:=aB wq9
 obtain⟨w11,wt11,rfl,wq11⟩:=aB wq10
 obtain⟨w12,wt12,rfl,wq12⟩:=aB wq11
 obtain rfl:wt12=[]:=List.eq_nil_of_length_eq_zero wq12
 have h0:=hx 0 (by decide) (by simp) (by simp)
 have h1:=hx 1 (by decide) (by simp) (by simp)
 have h2:=hx 2 (by decide) (by simp) (by simp)
 have h3:=hx 3 (by decide) (by simp) (by simp)
 have h4:=hx 4 (by decide) (by simp) (by simp)
 have h5:=hx 5 (by decide) (by simp) (by simp)
 have h6:=hx 6 (by decide) (by simp) (by simp)
 have h7:=hx 7 (by decide) (by simp) (by simp)
 have h8:=hx 8 (by decide) (by simp) (by simp)
 have h9:=hx 9 (by decide) (by simp) (by simp)
 have h10:=hx 10 (by decide) (by simp) (by simp)
 have h11:=hx 11 (by decide) (by simp) (by simp)
 have h12:=hx 12 (by decide) (by simp) (by simp)
 simp only[List.getElem_cons_zero,List.getElem_cons_succ] at h0 h1 h2 h3 h4 h5 h6 h7 h8 h9 h10 h11 h12
 simp only[List.sum_cons,List.sum_nil] at hs
 obtain⟨x0,rfl,a0,b0⟩:=(show bc 3 aV bG I64 (m+1) from iM _) _ _ (by omega) h0
 obtain⟨x1,rfl,a1,b1⟩:=(show bc 9 bd aZ bU (m+1) from gn _) _ _ (by omega) h1
 obtain⟨x2,rfl,a2,b2⟩:=(show bc 9 bd aZ bU (m+1) from gn _) _ _ (by omega) h2
 obtain⟨x3,rfl,a3,b3⟩:=(show bc 29 (lsC cdC) (lsW cdW) (lsP asF) (m+1) from (bc.list (aTB _) Tryz.underlying29).mono (Nat.le_succ _)) _ _ (by omega) h3
 obtain⟨x4,rfl,a4,b4⟩:=(show bc 30 (lsC bd) (lsW aZ) (lsP bU) (m+1) from (bc.list (gn _) Tryz.underlying30).mono (Nat.le_succ _)) _ _ (by omega) h4
 obtain⟨x5,rfl,a5,b5⟩:=(show bc 4 eP bG bU (m+1) from aar _) _ _ (by omega) h5
 obtain⟨x6,rfl,a6,b6⟩:=(show bc 31 (lsC kdC) (lsW kdW) (lsP aHO) (m+1) from (bc.list (a2o _) Tryz.underlying31).mono (Nat.le_succ _)) _ _ (by omega) h6
 obtain⟨x7,rfl,a7,b7⟩:=(show bc 32 (lsC rdC) (lsW rdW) (lsP aHG) (m+1) from (bc.list (a2k _) Tryz.underlying32).mono (Nat.le_succ _)) _ _ (by omega) h7
 obtain⟨x8,rfl,a8,b8⟩:=(show bc 33 (lsC xpC) (lsW xpW) (lsP d8) (m+1) from (bc.list (arM _) Tryz.underlying33).mono (Nat.le_succ _)) _ _ (by omega) h8
 obtain⟨x9,rfl,a9,b9⟩:=(show bc 34 (lsC (lsC xpC)) (lsW (lsW xpW)) (lsP (lsP d8)) (m+1) from (bc.list ((bc.list (arM _) Tryz.underlying33).mono (Nat.le_succ _)) Tryz.underlying34).mono (Nat.le_succ _)) _ _ (by omega) h9
 obtain⟨x10,rfl,a10,b10⟩:=(show bc 35 (lsC asC) (lsW asW) (lsP aBb) (m+1) from (bc.list (a2r _) Tryz.underlying35).mono (Nat.le_succ _)) _ _ (by omega) h10
 obtain⟨x11,rfl,a11,b11⟩:=(show bc 33 (lsC xpC) (lsW xpW) (lsP d8) (m+1) from (bc.list (arM _) Tryz.underlying33).mono (Nat.le_succ _)) _ _ (by omega) h11
 obtain⟨x12,rfl,a12,b12⟩:=(show bc 36 (lsC qyC) (lsW qyW) (lsP jX) (m+1) from (bc.list (a2l _) Tryz.underlying36).mono (Nat.le_succ _)) _ _ (by omega) h12
 refine⟨⟨x0,x1,x2,x3,x4,x5,x6,x7,x8,x9,x10,x11,x12⟩,?_,?_,?_⟩
 .simp[smC]
 .simp only[smW]
  omega
 .exact⟨b0,b1,b2,b3,b4,b5,b6,b7,b8,b9,b10,b11,b12⟩
theorem a2s (n:Nat):bc 22 (lsC smC) (lsW smW) (lsP fz) n:=(bc.list (aTA n) Tryz.underlying22).mono (Nat.le_succ _)
theorem a2n (n:Nat):bc 93 kyC kyW aHN n:=by
 intro cs m hm h
 obtain⟨ps,ws,rfl,hp,hl,hx,hs⟩:=h.struct_inv Tryz.underlying93
 have hp':ps.length=3:=hp
 have hl':ws.length=3:=hl
 clear hp hl
 obtain⟨p0,pt0,rfl,pq0⟩:=aB hp'
 obtain⟨p1,pt1,rfl,pq1⟩:=aB pq0
 obtain⟨p2,pt2,rfl,pq2⟩:=aB pq1
 obtain rfl:pt2=[]:=List.eq_nil_of_length_eq_zero pq2
 obtain⟨w0,wt0,rfl,wq0⟩:=aB hl'
 obtain⟨w1,wt1,rfl,wq1⟩:=aB wq0
 obtain⟨w2,wt2,rfl,wq2⟩:=aB wq1
 obtain rfl:wt2=[]:=List.eq_nil_of_length_eq_zero wq2
 have h0:=hx 0 (by decide) (by simp) (by simp)
 have h1:=hx 1 (by decide) (by simp) (by simp)
 have h2:=hx 2 (by decide) (by simp) (by simp)
 simp only[List.getElem_cons_zero,List.getElem_cons_succ] at h0 h1 h2
 simp only[List.sum_cons,List.sum_nil] at hs
 obtain⟨x0,rfl,a0,b0⟩:=(show bc 4 eP bG bU (m+1) from aar _) _ _ (by omega) h0
 obtain⟨x1,rfl,a1,b1⟩:=(show bc 58 (lsC aV) (lsW bG) (lsP I64) (m+1) from (bc.list (iM _) Tryz.underlying58).mono (Nat.le_succ _)) _ _ (by omega) h1
 obtain⟨x2,rfl,a2,b2⟩:=(show bc 3 aV bG I64 (m+1) from iM _) _ _ (by omega) h2
 refine⟨⟨x0,x1,x2⟩,?_,?_,?_⟩
 .simp[kyC]
 .simp only[kyW]
  omega
 .exact⟨b0,b1,b2⟩
theorem a2j (n:Nat):bc 99 rfC rfW aHF n:=by
 intro cs m hm h
 obtain⟨ps,ws,rfl,hp,hl,hx,hs⟩:=h.struct_inv Tryz.underlying99
 have hp':ps.length=3:=hp
 have hl':ws.length=3:=hl
 clear hp hl
 obtain⟨p0,pt0,rfl,pq0⟩:=aB hp'
 obtain⟨p1,pt1,rfl,pq1⟩:=aB pq0
 obtain⟨p2,pt2,rfl,pq2⟩:=aB pq1
 obtain rfl:pt2=[]:=List.eq_nil_of_length_eq_zero pq2
 obtain⟨w0,wt0,rfl,wq0⟩:=aB hl'
 obtain⟨w1,wt1,rfl,wq1⟩:=aB wq0
 obtain⟨w2,wt2,rfl,wq2⟩:=aB wq1
 obtain rfl:wt2=[]:=List.eq_nil_of_length_eq_zero wq2
 have h0:=hx 0 (by decide) (by simp) (by simp)
 have h1:=hx 1 (by decide) (by simp) (by simp)
 have h2:=hx 2 (by decide) (by simp) (by simp)
 simp only[List.getElem_cons_zero,List.getElem_cons_succ] at h0 h1 h2
 simp only[List.sum_cons,List.sum_nil] at hs
 obtain⟨x0,rfl,a0,b0⟩:=(show bc 58 (lsC aV) (lsW bG) (lsP I64) (m+1) from (bc.list (iM _) Tryz.underlying58).mono (Nat.le_succ _)) _ _ (by omega) h0
 obtain⟨x1,rfl,a1,b1⟩:=(show bc 9 bd aZ bU (m+1) from gn _) _ _ (by omega) h1
 obtain⟨x2,rfl,a2,b2⟩:=(show bc 58 (lsC aV) (lsW bG) (lsP I64) (m+1) from (bc.list (iM _) Tryz.underlying58).mono (Nat.le_succ _)) _ _ (by omega) h2
 refine⟨⟨x0,x1,x2⟩,?_,?_,?_⟩
 .simp[rfC]
 .simp only[rfW]
  omega
 .exact⟨b0,b1,b2⟩
theorem a2i (n:Nat):bc 48 tbC tbW aAB n:=by
 intro cs m hm h
 obtain⟨ps,ws,rfl,hp,hl,hx,hs⟩:=h.struct_inv Tryz.underlying48
 have hp':ps.length=6:=hp
 have hl':ws.length=6:=hl
 clear hp hl
 obtain⟨p0,pt0,rfl,pq0⟩:=aB hp'
 obtain⟨p1,pt1,rfl,pq1⟩:=aB pq0
 obtain⟨p2,pt2,rfl,pq2⟩:=aB pq1
 obtain⟨p3,pt3,rfl,pq3⟩:=aB pq2
 obtain⟨p4,pt4,rfl,pq4⟩:=aB pq3
 obtain⟨p5,pt5,rfl,pq5⟩:=aB pq4
 obtain rfl:pt5=[]:=List.eq_nil_of_length_eq_zero pq5
 obtain⟨w0,wt0,rfl,wq0⟩:=aB hl'
 obtain⟨w1,wt1,rfl,wq1⟩:=aB wq0
 obtain⟨w2,wt2,rfl,wq2⟩:=aB wq1
 obtain⟨w3,wt3,rfl,wq3⟩:=aB wq2
 obtain⟨w4,wt4,rfl,wq4⟩:=aB wq3
 obtain⟨w5,wt5,rfl,wq5⟩:=aB wq4
 obtain rfl:wt5=[]:=List.eq_nil_of_length_eq_zero wq5
 have h0:=hx 0 (by decide) (by simp) (by simp)
 have h1:=hx 1 (by decide) (by simp) (by simp)
 have h2:=hx 2 (by decide) (by simp) (by simp)
 have h3:=hx 3 (by decide) (by simp) (by simp)
 have h4:=hx 4 (by decide) (by simp) (by simp)
 have h5:=hx 5 (by decide) (by simp) (by simp)
 simp only[List.getElem_cons_zero,List.getElem_cons_succ] at h0 h1 h2 h3 h4 h5
 simp only[List.sum_cons,List.sum_nil] at hs
 obtain⟨x0,rfl,a0,b0⟩:=(show bc 9 bd aZ bU (m+1) from gn _) _ _ (by omega) h0
 obtain⟨x1,rfl,a1,b1⟩:=(show bc 3 aV bG I64 (m+1) from iM _) _ _ (by omega) h1
 obtain⟨x2,rfl,a2,b2⟩:=(show bc 29 (lsC cdC) (lsW cdW) (lsP asF) (m+1) from (bc.list (aTB _) Tryz.underlying29).mono (Nat.le_succ _)) _ _ (by omega) h2
 obtain⟨x3,rfl,a3,b3⟩:=(show bc 45 (lsC kyC) (lsW kyW) (lsP aHN) (m+1) from (bc.list (a2n _) Tryz.underlying45).mono (Nat.le_succ _)) _ _ (by omega) h3
 obtain⟨x4,rfl,a4,b4⟩:=(show bc 46 (lsC rfC) (lsW rfW) (lsP aHF) (m+1) from (bc.list (a2j _) Tryz.underlying46).mono (Nat.le_succ _)) _ _ (by omega) h4
 obtain⟨x5,rfl,a5,b5⟩:=(show bc 33 (lsC xpC) (lsW xpW) (lsP d8) (m+1) from (bc.list (arM _) Tryz.underlying33).mono (Nat.le_succ _)) _ _ (by omega) h5
 refine⟨⟨x0,x1,x2,x3,x4,x5⟩,?_,?_,?_⟩
 .simp[tbC]
 .simp only[tbW]
  omega
 .exact⟨b0,b1,b2,b3,b4,b5⟩
theorem a2p (n:Nat):bc 60 ixC ixW aHP n:=by
 intro cs m hm h
 obtain⟨ps,ws,rfl,hp,hl,hx,hs⟩:=h.struct_inv Tryz.underlying60
 have hp':ps.length=5:=hp
 have hl':ws.length=5:=hl
 clear hp hl
 obtain⟨p0,pt0,rfl,pq0⟩:=aB hp'
 obtain⟨p1,pt1,rfl,pq1⟩:=aB pq0
 obtain⟨p2,pt2,rfl,pq2⟩:=aB pq1
 obtain⟨p3,pt3,rfl,pq3⟩:=aB pq2
 obtain⟨p4,pt4,rfl,pq4⟩:=aB pq3
 obtain rfl:pt4=[]:=List.eq_nil_of_length_eq_zero pq4
 obtain⟨w0,wt0,rfl,wq0⟩:=aB hl'
 obtain⟨w1,wt1,rfl,wq1⟩:=aB wq0
 obtain⟨w2,wt2,rfl,wq2⟩:=aB wq1
 obtain⟨w3,wt3,rfl,wq3⟩:=aB wq2
 obtain⟨w4,wt4,rfl,wq4⟩:=aB wq3
 obtain rfl:wt4=[]:=List.eq_nil_of_length_eq_zero wq4
 have h0:=hx 0 (by decide) (by simp) (by simp)
 have h1:=hx 1 (by decide) (by simp) (by simp)
 have h2:=hx 2 (by decide) (by simp) (by simp)
 have h3:=hx 3 (by decide) (by simp) (by simp)
 have h4:=hx 4 (by decide) (by simp) (by simp)
 simp only[List.getElem_cons_zero,List.getElem_cons_succ] at h0 h1 h2 h3 h4
 simp only[List.sum_cons,List.sum_nil] at hs
 obtain⟨x0,rfl,a0,b0⟩:=(show bc 9 bd aZ bU (m+1) from gn _) _ _ (by omega) h0
 obtain⟨x1,rfl,a1,b1⟩:=(show bc 3 aV bG I64 (m+1) from iM _) _ _ (by omega) h1
 obtain⟨x2,rfl,a2,b2⟩:=(show bc 9 bd aZ bU (m+1) from gn _) _ _ (by omega) h2
 obtain⟨x3,rfl,a3,b3⟩:=(show bc 58 (lsC aV) (lsW bG) (lsP I64) (m+1) from (bc.list (iM _) Tryz.underlying58).mono (Nat.le_succ _)) _ _ (by omega) h3
 obtain⟨x4,rfl,a4,b4⟩:=(show bc 4 eP bG bU (m+1) from aar _) _ _ (by omega) h4
 refine⟨⟨x0,x1,x2,x3,x4⟩,?_,?_,?_⟩
 .simp[ixC]
 .simp only[ixW]
  omega
 .exact⟨b0,b1,b2,b3,b4⟩
theorem a2q (n:Nat):bc 27 ctC ctW aUX n:=by
 intro cs m hm h
 obtain⟨ps,ws,rfl,hp,hl,hx,hs⟩:=h.struct_inv Tryz.underlying27
 have hp':ps.length=3:=hp
 have hl':ws.length=3:=hl
 clear hp hl
 obtain⟨p0,pt0,rfl,pq0⟩:=aB hp'
 obtain⟨p1,pt1,rfl,pq1⟩:=aB pq0
 obtain⟨p2,pt2,rfl,pq2⟩:=aB pq1
 obtain rfl:pt2=[]:=List.eq_nil_of_length_eq_zero pq2
 obtain⟨w0,wt0,rfl,wq0⟩:=aB hl'
 obtain⟨w1,wt1,rfl,wq1⟩:=aB wq0
 obtain⟨w2,wt2,rfl,wq2⟩:=aB wq1
 obtain rfl:wt2=[]:=List.eq_nil_of_length_eq_zero wq2
 have h0:=hx 0 (by decide) (by simp) (by simp)
 have h1:=hx 1 (by decide) (by simp) (by simp)
 have h2:=hx 2 (by decide) (by simp) (by simp)
 simp only[List.getElem_cons_zero,List.getElem_cons_succ] at h0 h1 h2
 simp only[List.sum_cons,List.sum_nil] at hs
 obtain⟨x0,rfl,a0,b0⟩:=(show bc 24 (lsC tbC) (lsW tbW) (lsP aAB) (m+1) from (bc.list (a2i _) Tryz.underlying24).mono (Nat.le_succ _)) _ _ (by omega) h0
 obtain⟨x1,rfl,a1,b1⟩:=(show bc 25 (lsC ixC) (lsW ixW) (lsP aHP) (m+1) from (bc.list (a2p _) Tryz.underlying25).mono (Nat.le_succ _)) _ _ (by omega) h1
 obtain⟨x2,rfl,a2,b2⟩:=(show bc 3 aV bG I64 (m+1) from iM _) _ _ (by omega) h2
 refine⟨⟨x0,x1,x2⟩,?_,?_,?_⟩
 .simp[ctC]
 .simp only[ctW]
  omega
 .exact⟨b0,b1,b2⟩
end Go.Proofs.YtjajlmjfddohfaaGreatDoor
namespace Go.Tab
open Go.Pe
theorem aJ {α:Type} {l:List α} {k:Nat} (h:k<l.length):l.drop k=l[k]::l.drop (k+1):=List.drop_eq_getElem_cons h
def bJ {α:Type} (p:α→Bool):Nat→List α→Int
 | _,[]=>-1
 | k,x::r=>if p x then k else bJ p (k+1) r
def bE {α:Type} (p:α→Bool) (l:List α):Int:=bJ p 0 l
end Go.Tab
namespace Go.Tab
open Go Go.Pe
def jD:Int:=1000000000000000
def ca (c:UInt8):Bool:=(decide (97≤c.toNat)&&decide (c.toNat≤122))||decide (c=95)
def cQ (c:UInt8):Bool:=decide (48≤c.toNat)&&decide (c.toNat≤57)
def aA:List UInt8→Bool
 | []=>false
 | c::r=>ca c&&r.all (fun c=>ca c||cQ c)&&decide (r.length+1≤20)
def ff (s:List UInt8):Bool:=decide (s=[])||aA s
def abu:List UInt8:=[99,111,117,110,116]
def iL (s:List UInt8):Bool:=decide (s=abu)||decide (s=[115,117,109])||decide (s=[109,105,110])||decide (s=[109,97,120])
def ij:V:=⟨0,0,ByteArray.empty⟩
def ip:Xp:=.mk 0 ij [] [] false [] []
def jY (e:Xp):Bool:=decide (e.op=0)&&decide (e.v=ij)&&decide (e.tb=[])&&decide (e.nm=[])&&!e.di&&decide (e.ks.length=0)&&decide (e.sb.length=0)
theorem ag2 (e:Xp):jY e=true↔e=ip:=by
 simp only[jY,Bool.and_eq_true,decide_eq_true_eq,List.length_eq_zero_iff,Bool.not_eq_true']
 cases e
 simp only[ip,Xp.op,Xp.v,Xp.tb,Xp.nm,Xp.di,Xp.ks,Xp.sb,and_assoc,Xp.mk.injEq]
def jd (op:Int):Option (Nat×Nat×Nat) :=
 if op=1∨op=2 then some (0,0,0)
 else if op=26∨op=27 then some (0,0,1)
 else if op=3∨op=4∨op=19 then some (1,1,0)
 else if op=28 then some (1,1,1)
 else if op=22 then some (3,3,0)
 else if op=21 then some (2,65,0)
 else if op=23 then some (2,129,0)
 else if op=24 then some (0,64,0)
 else if op=25 then some (0,1,0)
 else if 5≤op∧op≤20 then some (2,2,0)
 else none
def cT (op:Int) (v:V) (tb nm:List UInt8) (di:Bool) (n:Nat):Bool :=
 if op=1 then dL v&&(decide (v.k≠2)||decide (0≤v.n))&&decide (tb=[])&&decide (nm=[])&&!di
 else if op=2 then decide (v=ij)&&aA nm&&ff tb&&!di
 else if op=24 then decide (v=ij)&&decide (tb=[])&&aA nm&&!iL nm&&!di
 else if op=25 then decide (v=ij)&&decide (tb=[])&&iL nm&&(decide (n=1)||(decide (nm=abu)&&!di))
 else decide (v=ij)&&decide (tb=[])&&decide (nm=[])&&!di
def aE (n lo hi:Nat):Bool:=decide (lo≤n)&&decide (n≤hi)
def fA (o:Od):Bool:=if o.nm≠[] then aA o.nm&&decide (o.pl=0) else decide (1≤o.pl)&&decide (o.pl≤jD)
mutual
def dz:Fm→Nat
 | .mk kd _ _ _ ks _=>if kd=1∨kd=2 then 1 else agC ks
def agC:List Fm→Nat
 | []=>0
 | x::r=>dz x+agC r
end
mutual
def dy:Fm→Nat
 | .mk kd _ _ _ ks _=>(if kd=1∨kd=2 then 1 else 0)+agA ks
def agA:List Fm→Nat
 | []=>0
 | x::r=>dy x+agA r
end
mutual
def aK:Xp→Bool
 | .mk op v tb nm di ks sb=>match jd op with
  | none=>false
  | some (lo,hi,n)=>cT op v tb nm di ks.length&&aE ks.length lo hi&&decide (sb.length=n)&&aeN ks&&aiV sb
def aeN:List Xp→Bool
 | []=>true
 | x::r=>aK x&&aeN r
def bA:Qy→Bool
 | .mk op al ks di its fr wh gr hv od li sk =>
  decide (-1≤li)&&decide (li≤jD)&&decide (0≤sk)&&decide (sk≤jD)&&aE od.length 0 64&&od.all fA &&
  (if op=1 then !al&&aE ks.length 0 0&&aE its.length 1 64&&apC its&&aE fr.length 0 1&&ak7 fr&&fr.all (fun f=>decide (dz f≤8))&&aE wh.length 0 1&&aeN wh&&aE gr.length 0 64&&aeN gr&&aE hv.length 0 1&&aeN hv
   else if op=2∨op=3∨op=4 then aE ks.length 2 2&&aiV ks&&!di&&decide (its.length+fr.length+wh.length+gr.length+hv.length=0)
   else false)
def aiV:List Qy→Bool
 | []=>true
 | x::r=>bA x&&aiV r
def je:Im→Bool
 | .mk st tb e az=>if st then ff tb&&jY e&&decide (az=[]) else decide (tb=[])&&ff az&&aK e
def apC:List Im→Bool
 | []=>true
 | x::r=>je x&&apC r
def fw:Fm→Bool
 | .mk kd nm az sb ks on =>
  if kd=1 then aA nm&&ff az&&decide (sb.length+ks.length+on.length=0)
  else if kd=2 then decide (nm=[])&&aA az&&aE sb.length 1 1&&aiV sb&&decide (ks.length+on.length=0)
  else if kd=3∨kd=4∨kd=5 then decide (nm=[])&&decide (az=[])&&decide (sb.length=0)&&aE ks.length 2 2&&ak7 ks&&decide (on.length=if kd=3 then 0 else 1)&&aeN on
  else false
def ak7:List Fm→Bool
 | []=>true
 | x::r=>fw x&&ak7 r
end
theorem aeM:∀ l:List Xp,aeN l=l.all aK
 | []=>rfl
 | x::r=>by rw[aeN,aeM r];rfl
theorem aeO:∀ l:List Qy,aiV l=l.all bA
 | []=>rfl
 | x::r=>by rw[aiV,aeO r];rfl
theorem anU:∀ l:List Im,apC l=l.all je
 | []=>rfl
 | x::r=>by rw[apC,anU r];rfl
theorem ahB:∀ l:List Fm,ak7 l=l.all fw
 | []=>rfl
 | x::r=>by rw[ak7,ahB r];rfl
def bL (l:List Xp) (lo hi:Nat):Bool:=aE l.length lo hi&&l.all aK
def bR (c:Cd):Bool:=aA c.nm&&decide (1≤c.ty)&&decide (c.ty≤3)
def bt (l:List (List UInt8)) (lo hi:Nat):Bool:=aE l.length lo hi&&l.all aA
def cK (k:Kd):Bool:=bt k.ns 1 16
def cz (r:Rd):Bool:=bt r.ns 1 16&&aA r.tb&&bt r.to 1 16
def cA (a:As):Bool:=aA a.nm&&aK a.e
def bO (s:Sm):Bool :=
 if s.kd=1 then aA s.tb&&(aE s.cs.length 1 16&&s.cs.all bR)&&(aE s.kys.length 0 64&&s.kys.all cK)&&(aE s.rfs.length 0 64&&s.rfs.all cz)&&bL s.chs 0 64
  && (decide (s.nm=[])&&decide (s.ns=[])&&!s.un&&decide (s.rws.length=0)&&decide (s.sts.length=0)&&decide (s.wh.length=0)&&decide (s.q.length=0))
 else if s.kd=2 then aA s.tb&&aA s.nm&&bt s.ns 1 16
  && (decide (s.cs.length=0)&&decide (s.kys.length=0)&&decide (s.rfs.length=0)&&decide (s.chs.length=0)&&decide (s.rws.length=0)&&decide (s.sts.length=0)&&decide (s.wh.length=0)&&decide (s.q.length=0))
 else if s.kd=3 then ((aA s.tb&&decide (s.nm=[]))||(decide (s.tb=[])&&aA s.nm))
  && (decide (s.cs.length=0)&&decide (s.ns.length=0)&&!s.un&&decide (s.kys.length=0)&&decide (s.rfs.length=0)&&decide (s.chs.length=0)&&decide (s.rws.length=0)&&decide (s.sts.length=0)&&decide (s.wh.length=0)&&decide (s.q.length=0))
 else if s.kd=4 then aA s.tb&&bt s.ns 0 16&&((decide (s.rws.length=0)&&aE s.q.length 1 1&&s.q.all bA)||(decide (s.q.length=0)&&aE s.rws.length 1 64&&s.rws.all (fun l=>bL l 1 16)))
  && (decide (s.nm=[])&&decide (s.cs.length=0)&&!s.un&&decide (s.kys.length=0)&&decide (s.rfs.length=0)&&decide (s.chs.length=0)&&decide (s.sts.length=0)&&decide (s.wh.length=0))
 else if s.kd=5 then aA s.tb&&(aE s.sts.length 1 16&&s.sts.all cA)&&bL s.wh 0 1
  && (decide (s.nm=[])&&decide (s.cs.length=0)&&decide (s.ns.length=0)&&!s.un&&decide (s.kys.length=0)&&decide (s.rfs.length=0)&&decide (s.chs.length=0)&&decide (s.rws.length=0)&&decide (s.q.length=0))
 else if s.kd=6 then aA s.tb&&bL s.wh 0 1
  && (decide (s.nm=[])&&decide (s.cs.length=0)&&decide (s.ns.length=0)&&!s.un&&decide (s.kys.length=0)&&decide (s.rfs.length=0)&&decide (s.chs.length=0)&&decide (s.rws.length=0)&&decide (s.sts.length=0)&&decide (s.q.length=0))
 else if s.kd=7∨s.kd=11 then (aE s.q.length 1 1&&s.q.all bA)
  && (decide (s.tb=[])&&decide (s.nm=[])&&decide (s.cs.length=0)&&decide (s.ns.length=0)&&!s.un&&decide (s.kys.length=0)&&decide (s.rfs.length=0)&&decide (s.chs.length=0)&&decide (s.rws.length=0)&&decide (s.sts.length=0)&&decide (s.wh.length=0))
 else if s.kd=8∨s.kd=9∨s.kd=10∨s.kd=12∨s.kd=13∨s.kd=14 then
  decide (s.tb=[])&&decide (s.nm=[])&&decide (s.cs.length=0)&&decide (s.ns.length=0)&&!s.un&&decide (s.kys.length=0)&&decide (s.rfs.length=0)&&decide (s.chs.length=0)&&decide (s.rws.length=0)&&decide (s.sts.length=0)&&decide (s.wh.length=0)&&decide (s.q.length=0)
 else false
def aM (a b:Nat×Nat):Nat×Nat:=(a.1+b.1,max a.2 b.2)
def upN (a:Nat×Nat):Nat×Nat:=(a.1+1,a.2+1)
def aH {α:Type} (f:α→Nat×Nat):List α→Nat×Nat
 | []=>(0,0)
 | x::r=>aM (f x) (aH f r)
mutual
def bk:Xp→Nat×Nat
 | .mk _ _ _ _ _ ks sb=>upN (aM (aeI ks) (aiT sb))
def aeI:List Xp→Nat×Nat
 | []=>(0,0)
 | x::r=>aM (bk x) (aeI r)
def cS:Qy→Nat×Nat
 | .mk _ _ ks _ its fr wh gr hv _ _ _=>upN (aM (aM (aM (aM (aM (aiT ks) (apA its)) (akO fr)) (aeI wh)) (aeI gr)) (aeI hv))
def aiT:List Qy→Nat×Nat
 | []=>(0,0)
 | x::r=>aM (cS x) (aiT r)
def gc:Im→Nat×Nat
 | .mk st _ e _=>if st then (0,0) else bk e
def apA:List Im→Nat×Nat
 | []=>(0,0)
 | x::r=>aM (gc x) (apA r)
def eT:Fm→Nat×Nat
 | .mk _ _ _ sb ks on=>upN (aM (aM (aiT sb) (akO ks)) (aeI on))
def akO:List Fm→Nat×Nat
 | []=>(0,0)
 | x::r=>aM (eT x) (akO r)
end
theorem abP:∀ l:List Xp,aeI l=aH bk l
 | []=>rfl
 | x::r=>by rw[aeI,abP r];rfl
theorem aeJ:∀ l:List Qy,aiT l=aH cS l
 | []=>rfl
 | x::r=>by rw[aiT,aeJ r];rfl
theorem anJ:∀ l:List Im,apA l=aH gc l
 | []=>rfl
 | x::r=>by rw[apA,anJ r];rfl
theorem ahh:∀ l:List Fm,akO l=aH eT l
 | []=>rfl
 | x::r=>by rw[akO,ahh r];rfl
theorem fZ (a b c:Nat×Nat):aM (aM a b) c=aM a (aM b c):=by simp[aM,Nat.add_assoc,Nat.max_assoc]
theorem eX (a:Nat×Nat):aM a (0,0)=a:=by simp[aM]
theorem jx (a:Nat×Nat):aM (0,0) a=a:=by simp[aM]
def ky (s:Sm):Nat×Nat:=aM (aM (aM (aM (aH bk s.chs) (aH (fun l=>aH bk l) s.rws)) (aH (fun a:As=>bk a.e) s.sts)) (aH bk s.wh)) (aH cS s.q)
def iB (n:Nat×Nat):Bool:=decide (n.1≤400)&&decide (n.2≤40)
def dZ (e:Xp):Bool:=iB (bk e)&&aK e
def cd (s:Sm):Bool:=iB (ky s)&&bO s
def ee:Int:=1099511627776
def bN (l:List Int) (most:Nat):Bool:=decide (l≠[])&&decide l.Nodup&&l.all fun x=>decide (0≤x)&&decide (x<(most:Int))
def dE (prev:Int) (next:Int):List Int→Bool
 | []=>true
 | x::r=>decide (prev<x)&&decide (x<next)&&dE x next r
def cy (tb:List UInt8) (n:Nat):List UInt8:=tb++[95]++Lib.itoa (n:Int)
def iy (c:Ct) (id:Int):Option Ix:=c.ixs.find? fun x=>decide (x.id=id)
def bx (c:Ct) (nm:List UInt8):Option Tb:=c.tbs.find? fun t=>decide (t.nm=nm)
def hJ (c:Ct) (t:Tb) (k:Ky) (n:Nat):Bool:=match iy c k.ix with
 | none=>false
 | some x=>bN k.cs t.cs.length&&decide (x.tb=t.nm)&&x.un&&decide (x.cs=k.cs)&&decide (x.nm=cy t.nm n)
def kj (l:List Cd) (i:Int):Option Int:=(l[i.toNat]?).map Cd.ty
def db (a:List Cd) (b:List Cd):List Int→List Int→Bool
 | x::r,y::q=>decide (0≤y)&&decide (y<(b.length:Int))&&decide (kj a x=kj b y)&&db a b r q
 | _,_=>true
def fF (l:List Ky) (to:List Int):Bool:=l.any fun k=>decide (k.cs=to)
def d5 (c:Ct) (t:Tb) (f:Rf):Bool:=match bx c f.tb with
 | none=>false
 | some o=>bN f.cs t.cs.length&&decide (f.to.length=f.cs.length)&&fF o.kys f.to&&db t.cs o.cs f.cs f.to
def ig (t:Tb):Bool:=t.cs.all bR&&aA t.nm&&aE t.cs.length 1 16&&decide (t.cs.map Cd.nm).Nodup
def gZ (c:Ct) (t:Tb):Nat→List Ky→Bool
 | _,[]=>true
 | n,k::r=>hJ c t k (n+1)&&gZ c t (n+1) r
def i8 (l:List Ky):Nat:=(l.filter Ky.pr).length
def dJ (c:Ct) (t:Tb):Bool:=ig t&&decide (i8 t.kys≤1)&&gZ c t 0 t.kys&&t.rfs.all (d5 c t)&&t.chs.all dZ
def df (c:Ct) (id:Int):Bool:=c.tbs.any fun t=>t.kys.any fun k=>decide (k.ix=id)
def dC (c:Ct) (x:Ix):Bool:=match bx c x.tb with
 | none=>false
 | some t=>bN x.cs t.cs.length&&(aA x.nm||df c x.id)
def bz (c:Ct):Bool :=
 decide (c.tbs.length≤32)&&decide (c.ixs.length≤64)&&decide (1≤c.nx)&&decide (c.nx≤ee) &&
 (decide (c.tbs.map Tb.nm).Nodup&&decide (c.ixs.map Ix.nm).Nodup&&decide (c.tbs.map Tb.id++c.ixs.map Ix.id).Nodup&&dE 0 c.nx (c.tbs.map Tb.id)&&dE 0 c.nx (c.ixs.map Ix.id)) &&
 c.tbs.all (dJ c)&&c.ixs.all (dC c)
def agO (l:List Cd) (s:List UInt8):Option Nat:=l.findIdx? fun c=>decide (c.nm=s)
def bC (l:List Cd):List (List UInt8)→Option (List Int)
 | []=>some []
 | s::r=>match agO l s,bC l r with
  | some k,some q=>some ((k:Int)::q)
  | _,_=>none
def gg (c:Ct) (s:List UInt8):Bool:=c.ixs.any fun x=>decide (x.nm=s)
def eW (c:Ct) (tb:List UInt8):Nat→List Kd→Bool
 | _,[]=>false
 | n,k::r=>!decide k.ns.Nodup||gg c (cy tb (n+1))||eW c tb (n+1) r
def dc (c:Ct) (s:Sm):Bool:=(bx c s.tb).isSome||!decide (s.cs.map Cd.nm).Nodup||decide (1<(s.kys.filter Kd.pr).length)||eW c s.tb 0 s.kys||s.rfs.any fun f=>!decide f.ns.Nodup
def kJ (tb:List UInt8) (cs:List Cd):Nat→Int→List Kd→Option (List Ky×List Ix)
 | _,_,[]=>some ([],[])
 | n,id,k::r=>match bC cs k.ns,kJ tb cs (n+1) (id+1) r with
  | some l,some (a,b)=>some (⟨k.pr,l,id⟩::a,⟨cy tb (n+1),id,tb,l,true⟩::b)
  | _,_=>none
def cq (c:Ct) (tb:List UInt8) (cs:List Cd) (kys:List Ky) (f:Rd):Rf ⊕ Int :=
 match bC cs f.ns with
 | none=>.inr 6
 | some from'=>match (if f.tb=tb then some (cs,kys) else (bx c f.tb).map fun o=>(o.cs,o.kys)) with
  | none=>.inr 6
  | some (ocs,okys)=>match bC ocs f.to with
   | none=>.inr 6
   | some to=>if from'.length≠to.length then .inr 11 else if !fF okys to then .inr 21 else if !db cs ocs from' to then .inr 9 else .inl ⟨from',f.tb,to⟩
def eE (c:Ct) (tb:List UInt8) (cs:List Cd) (kys:List Ky):List Rd→List Rf ⊕ Int
 | []=>.inl []
 | f::r=>match cq c tb cs kys f with
  | .inr e=>.inr e
  | .inl x=>match eE c tb cs kys r with
   | .inr e=>.inr e
   | .inl l=>.inl (x::l)
def fC (c:Ct) (s:Sm):Ct×Int :=
 if !bz c||decide (s.kd≠1)||!cd s then (c,1)
 else if dc c s then (c,7)
 else if 16<s.cs.length∨32≤c.tbs.length∨64<c.ixs.length+s.kys.length∨ee<c.nx+1+(s.kys.length:Int) then (c,18)
 else match kJ s.tb s.cs 0 (c.nx+1) s.kys with
  | none=>(c,6)
  | some (kys,ixs)=>match eE c s.tb s.cs kys s.rfs with
   | .inr e=>(c,e)
   | .inl rfs=>(⟨c.tbs++[⟨s.tb,c.nx,s.cs,kys,rfs,s.chs⟩],c.ixs++ixs,c.nx+1+(s.kys.length:Int)⟩,0)
def cB (c:Ct) (s:Sm):Ct×Int :=
 if !bz c||decide (s.kd≠2)||!cd s then (c,1)
 else if gg c s.nm||!decide s.ns.Nodup then (c,7)
 else if 64≤c.ixs.length∨ee≤c.nx then (c,18)
 else match bx c s.tb with
  | none=>(c,6)
  | some t=>match bC t.cs s.ns with
   | none=>(c,6)
   | some l=>(⟨c.tbs,c.ixs++[⟨s.nm,c.nx,s.tb,l,s.un⟩],c.nx+1⟩,0)
def eO (c:Ct) (tb:List UInt8):Ct×Int :=
 if (bx c tb).isNone then (c,6)
 else if c.tbs.any fun t=>decide (t.nm≠tb)&&t.rfs.any fun f=>decide (f.tb=tb) then (c,14)
 else (⟨c.tbs.filter fun t=>decide (t.nm≠tb),c.ixs.filter fun x=>decide (x.tb≠tb),c.nx⟩,0)
def gw (c:Ct) (s:Sm):Ct×Int :=
 if !bz c||decide (s.kd≠3)||!cd s then (c,1)
 else if s.tb≠[] then eO c s.tb
 else match c.ixs.find? fun x=>decide (x.nm=s.nm) with
  | none=>(c,6)
  | some x=>if df c x.id then (c,17) else (⟨c.tbs,c.ixs.filter fun y=>decide (y.nm≠s.nm),c.nx⟩,0)
def doA (c:Ct) (s:Sm):Ct×Int:=if s.kd=1 then fC c s else if s.kd=2 then cB c s else gw c s
end Go.Tab

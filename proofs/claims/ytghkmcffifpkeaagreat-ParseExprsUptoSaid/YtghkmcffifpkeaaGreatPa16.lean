/- A part. Conditions: none. -/
import Derived.Test.YtghkmcffifpkeaaGreatPa15
import Derived.Test.YtghkmcffifpkeaaGreatRows
import Derived.ProofKit
import Derived.OpenShut
import Derived.Deep.DeepHandedRow
set_option linter.all false
set_option maxRecDepth 100000
set_option maxHeartbeats 64000000
namespace Go.Proofs.YtghkmcffifpkeaaGreat.card
open Pe Tab RowKit ChangeShapes WideShapes ChangeAt
def own:ownKnob Tryz.prog.godebug=none:=by kernel_rfl
def aOE:laidOutB Tryz.prog=true:=by kernel_rfl
def table{W:World}(hs:W.ShapedOpen Tryz.prog):GT.holds W :=
 Go.Proofs.cell_of_shapedOpen_int (zero:=#[.int .i64 0]) (t:=3) hs (abB aS) aS rfl aS aS Tryz.underlying3
theorem aiN{H:Type}{enc:TypeId×Value->H}{W W':World}{sp:Nat->Bool}:∀ {ts:List TypeId} {vs:List Value} {ds:List (DataW H)} {ps:List MemPlace},(∀ t∈ts,Tryz.prog.readableRec t=true/\t<Tryz.prog.types.size) ->
  DataW.TrodAll enc Tryz.prog W 0 (λ_=>true) true ts vs ds ps->(∀ p∈ps,W.sameAt W' p)->(∀ p∈ps,sp p.block=true)->DataW.TrodAll enc Tryz.prog W' 0 sp true ts vs ds ps
 | [],[],[],_,_,h,_,_=>h
 | _::_,_::_,_::_,_,hT,⟨p,q,h1,h2,e⟩,hs,hsp =>
  ⟨p,q,WideElems.Trod_stays aOE (hT _ (bQ.2 (.inl rfl))).1 (hT _ (bQ.2 (.inl rfl))).2 h1 (λx hx=>hs x (by rw[e];exact adw _ hx)) (λx hx=>hsp x (by rw[e];exact adw _ hx)),
   aiN (λt ht=>hT t (bQ.2 (.inr ht))) h2 (λx hx=>hs x (by rw[e];exact List.mem_append_right _ hx)) (λx hx=>hsp x (by rw[e];exact List.mem_append_right _ hx)),e⟩
def aZv{W:World}(h:GT.holds W){c:Nat}(hc:GT.blk c):c<W.heap.size:=by
 obtain⟨m,h2⟩:=h
 obtain rfl:c=0:=hc
 exact World.block_lt_of_cell? (a:=⟨0,0,none⟩) W h2
def ayR{f:Nat}{xs:List X}{u:Value}(h:abu Tryz.prog GT f xs [] ⟨false,[.of (.lit u)],[]⟩){fn:Func}(hfn:Tryz.prog.funcs[f]?=some fn){W:World}(hT:GT.holds W){m:Mem}
  (hm:∀ b o v,m b o=some v->W.cell? ⟨b,o,none⟩=some v/\v.oneCell'=true) {vs:List Value} (hvs:aV ⟨m,λ_=>none⟩ (λ_=>none) xs vs) :
  Calls Tryz.prog f vs.toArray W λe W'=>e=.returned u/\Below W.heap.size W W':=by
 have hG:¬ ∃ c,abi ⟨m,λ_=>none⟩ (λ_=>none) c:=by
  rintro⟨c,⟨r,hr⟩|⟨t,v,e,z,n,ht,_⟩⟩
  .cases hr
  .cases ht
 have hp:Hp ⟨GT,m,abi ⟨m,λ_=>none⟩ (λ_=>none)⟩ ⟨m,λ_=>none⟩ (λ_=>none) W W []:={
  good:=⟨hT,λc hc=>⟨aZv hT hc,λhm=>hG ⟨c,hm⟩⟩⟩
  below:=Keeps.refl _ _
  mem:=hm
  obj:=λr ob hr=>by simp at hr
  dom:=λr c hr=>by cases hr
  inj:=λr r' c hr=>by cases hr
  tok:=λt v e z n ht=>by cases ht
  tokne:=λt t' v e z n v' e' z' n' ht=>by cases ht
  m0:=λc o v hv _ _=>hv}
 refine (h fn hfn ⟨m,λ_=>none⟩ (λ_=>none) W vs hp (λt p ht=>by cases ht) (λr off p ht=>by cases ht) hvs).mono ?_
 rintro e W' ⟨k',ow',us,he,hp',_,_,_,_,_,hus⟩
 simp only[aV,aL,Rep] at hus
 obtain⟨v,r,rfl,⟨rfl,_⟩,rfl⟩:=hus
 refine⟨he,?_⟩
 have hb:=hp'.below
 exact⟨hb.os,hb.tape,hb.output,hb.size,λc hc=>hb.block c hc λhm=>hG ⟨c,hm⟩⟩
def aBU(W:World):Mem:=λb o=>match W.cell? ⟨b,o,none⟩ with
 | some v=>if v.oneCell'=true then some v else none
 | none=>none
def aFg{W:World}{b o:Nat}{v:Value}(h:aBU W b o=some v):W.cell? ⟨b,o,none⟩=some v/\v.oneCell'=true:=by
 unfold aBU at h
 split at h
 .split at h
  .rename_i h1 h2
   cases h
   exact⟨h1,h2⟩
  .cases h
 .cases h
def kOf(W:World):Know:=⟨aBU W,λ_=>none⟩
def as9{f:Nat}{xs:List X}{b:Bool}(h:H1 f xs (aN b)){fn:Func}(hfn:Tryz.prog.funcs[f]?=some fn){W:World}(hT:GT.holds W){vs:List Value}(hvs:aV (kOf W) (λ_=>none) xs vs) :
  Calls Tryz.prog f vs.toArray W λe W'=>e=.returned (.bool b)/\Below W.heap.size W W' :=
 ayR (h.sound ey (aQp aHn)) hfn hT (λ_ _ _ hv=>aFg hv) hvs
noncomputable def ag6(os:Os):World:=World.holding Tryz.prog os ⟨#[],#[],[]⟩
def aK4:Tryz.prog.readableRec 9=true/\9<Tryz.prog.types.size:=⟨by kernel_rfl,abB aS⟩

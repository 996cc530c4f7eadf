/- A part. Conditions: none. -/
import Derived.Test.YtghkmcffifpkeaaGreatPa10
import Derived.Test.YtghkmcffifpkeaaGreatRows
import Derived.ProofKit
import Derived.OpenShut
import Derived.Deep.DeepHandedRow
set_option linter.all false
set_option maxRecDepth 100000
set_option maxHeartbeats 64000000
namespace Go.Proofs.YtghkmcffifpkeaaGreat.card
open Pe Tab RowKit ChangeShapes WideShapes ChangeAt
def own:ownKnob Tryz.prog.godebug=none:=by kernel_rfl
def aUy:laidOutB Tryz.prog=true:=by kernel_rfl
def table{W:World}(hs:W.ShapedOpen Tryz.prog):GT.holds W :=
 Go.Proofs.cell_of_shapedOpen_int (zero:=#[.int .i64 0]) (t:=3) hs (abn aS) aS rfl aS aS Tryz.underlying3
theorem ajM{H:Type}{enc:TypeId×Value->H}{W W':World}{sp:Nat->Bool}:∀ {ts:List TypeId} {vs:List Value} {ds:List (DataW H)} {ps:List MemPlace},(∀ t∈ts,Tryz.prog.readableRec t=true/\t<Tryz.prog.types.size) ->
  DataW.TrodAll enc Tryz.prog W 0 (λ_=>true) true ts vs ds ps->(∀ p∈ps,W.sameAt W' p)->(∀ p∈ps,sp p.block=true)->DataW.TrodAll enc Tryz.prog W' 0 sp true ts vs ds ps
 | [],[],[],_,_,h,_,_=>h
 | _::_,_::_,_::_,_,hT,⟨p,q,h1,h2,e⟩,hs,hsp =>
  ⟨p,q,WideElems.Trod_stays aUy (hT _ (bp.2 (.inl rfl))).1 (hT _ (bp.2 (.inl rfl))).2 h1 (λx hx=>hs x (by rw[e];exact ach _ hx)) (λx hx=>hsp x (by rw[e];exact ach _ hx)),
   ajM (λt ht=>hT t (bp.2 (.inr ht))) h2 (λx hx=>hs x (by rw[e];exact List.mem_append_right _ hx)) (λx hx=>hsp x (by rw[e];exact List.mem_append_right _ hx)),e⟩
def bev{W:World}(h:GT.holds W){c:Nat}(hc:GT.blk c):c<W.heap.size:=by
 obtain⟨m,h2⟩:=h
 obtain rfl:c=0:=hc
 exact World.block_lt_of_cell? (a:=⟨0,0,none⟩) W h2
def apX{f:Nat}{xs:List X}{u:Value}(h:aa2 Tryz.prog GT f xs [] ⟨false,[.of (.lit u)],[]⟩){fn:Func}(hfn:Tryz.prog.funcs[f]?=some fn){W:World}(hT:GT.holds W){m:Mem}
  (hm:∀ b o v,m b o=some v->W.cell? ⟨b,o,none⟩=some v/\v.oneCell'=true) {vs:List Value} (hvs:aR ⟨m,λ_=>none⟩ (λ_=>none) xs vs) :
  Calls Tryz.prog f vs.toArray W λe W'=>e=.returned u/\Below W.heap.size W W':=by
 have hG:¬ ∃ c,abM ⟨m,λ_=>none⟩ (λ_=>none) c:=by
  rintro⟨c,⟨r,hr⟩|⟨t,v,e,z,n,ht,_⟩⟩
  .cases hr
  .cases ht
 have hp:Hp ⟨GT,m,abM ⟨m,λ_=>none⟩ (λ_=>none)⟩ ⟨m,λ_=>none⟩ (λ_=>none) W W []:={
  good:=⟨hT,λc hc=>⟨bev hT hc,λhm=>hG ⟨c,hm⟩⟩⟩
  below:=Keeps.refl _ _
  mem:=hm
  obj:=λr ob hr=>by simp at hr
  dom:=λr c hr=>by cases hr
  inj:=λr r' c hr=>by cases hr
  tok:=λt v e z n ht=>by cases ht
  tokne:=λt t' v e z n v' e' z' n' ht=>by cases ht
  m0:=λc o v hv _ _=>hv}
 refine (h fn hfn ⟨m,λ_=>none⟩ (λ_=>none) W vs hp (λt p ht=>by cases ht) (λr off p ht=>by cases ht) hvs).mono ?_
 rintro e W' ⟨k',ow',us,he,hp',_,_,_,_,_,hus⟩
 simp only[aR,aF,Rep] at hus
 obtain⟨v,r,rfl,⟨rfl,_⟩,rfl⟩:=hus
 refine⟨he,?_⟩
 have hb:=hp'.below
 exact⟨hb.os,hb.tape,hb.output,hb.size,λc hc=>hb.block c hc λhm=>hG ⟨c,hm⟩⟩
def aEP(W:World):Mem:=λb o=>match W.cell? ⟨b,o,none⟩ with
 | some v=>if v.oneCell'=true then some v else none
 | none=>none
def auY{W:World}{b o:Nat}{v:Value}(h:aEP W b o=some v):W.cell? ⟨b,o,none⟩=some v/\v.oneCell'=true:=by
 unfold aEP at h
 split at h
 .split at h
  .rename_i h1 h2
   cases h
   exact⟨h1,h2⟩
  .cases h
 .cases h
def kOf(W:World):Know:=⟨aEP W,λ_=>none⟩
def aH8{f:Nat}{xs:List X}{b:Bool}(h:H1 f xs (aL b)){fn:Func}(hfn:Tryz.prog.funcs[f]?=some fn){W:World}(hT:GT.holds W){vs:List Value}(hvs:aR (kOf W) (λ_=>none) xs vs) :
  Calls Tryz.prog f vs.toArray W λe W'=>e=.returned (.bool b)/\Below W.heap.size W W' :=
 apX (h.sound cw (aHI axY)) hfn hT (λ_ _ _ hv=>auY hv) hvs
noncomputable def ahQ(os:Os):World:=World.holding Tryz.prog os ⟨#[],#[],[]⟩
def aXe{x y:TypeId}(hx:Tryz.prog.readableRec x=true/\x<Tryz.prog.types.size)(hy:Tryz.prog.readableRec y=true/\y<Tryz.prog.types.size):∀ t∈[x,y],Tryz.prog.readableRec t=true/\t<Tryz.prog.types.size:=by
 intro t ht
 simp only[bp,cB,eV] at ht
 rcases ht with rfl|rfl
 .exact hx
 .exact hy
def aPH:Tryz.prog.readableRec 9=true/\9<Tryz.prog.types.size:=⟨by kernel_rfl,abn aS⟩
def baG:Tryz.prog.readableRec 5=true/\5<Tryz.prog.types.size:=⟨by kernel_rfl,abn aS⟩

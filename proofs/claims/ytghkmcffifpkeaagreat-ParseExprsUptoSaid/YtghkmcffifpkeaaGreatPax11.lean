/- ParseExprs: the expression that any text is, or why and where it is none, is as the document says. Conditions: none. -/
import Derived.Test.YtghkmcffifpkeaaGreatPa24
set_option linter.all false
set_option maxRecDepth 100000
set_option maxHeartbeats 64000000
namespace Go.Proofs.YtghkmcffifpkeaaGreat.parseExprs
open Pe Tab RowKit ChangeShapes WideShapes ChangeAt card
def awr{x:TypeId}(hx:Tryz.prog.readableRec x=true/\x<Tryz.prog.types.size):∀ t∈[x],Tryz.prog.readableRec t=true/\t<Tryz.prog.types.size:=by
 intro t ht
 rw[dt.1 ht];exact hx
def apZ(H:Type)(enc:TypeId×Value->H)(W:World)(base:Nat)(args:Array Value)(ds gs:List (DataW H))(before:List MemPlace)
  (hval:∀ (j:Nat) t v,Tryz.f3.params[j]?=some t->args[j]?=some v->Value.okWide Tryz.prog W .any base t v)
  (hW:DataW.Whole enc Tryz.prog Tryz.f3.params.toList Rows.parseExprsSpec.vars false W args.toList ds gs before)
  (hsh:W.ShapedOpen Tryz.prog) :
  Calls Tryz.prog 3 args W λe W'=>∃ v,e=.returned v/\Rows.parseExprsSpec.post enc Tryz.prog Tryz.f3 false true false false W args v W':=by
 have hW':=hW
 obtain⟨p,q,hA0,hV,rfl,hfz,hnd⟩:=hW
 have hA:DataW.TrodAll enc Tryz.prog W 0 (λ_=>true) true Tryz.f3.params.toList args.toList ds p:=hA0
 rw[Tryz.params3] at hA hval
 have hAk:=hA
 obtain⟨v0,d0,rfl,rfl,h0⟩:=trodAll_one hA
 obtain⟨rfl,rfl⟩:=trodVars_none hV
 obtain⟨s,rfl,rfl,rfl,_⟩:=Go.ChangeMaps.open_string Tryz.underlying9 (hval 0 _ v0 rfl rfl) h0
 have hcall:=arC s.data.toList
 rw[akr] at hcall
 refine (as9 hcall Tryz.func3 (table hsh) (vs:=[.string s]) ⟨_,_,rfl,⟨rfl,rfl⟩,rfl⟩).mono ?_
 rintro e W' ⟨rfl,hB⟩
 exact⟨_,rfl,⟨_,_,_,[],_,[],hW',trodAll_mk1 (shut_bool Tryz.underlying4 _),aiN (awr aK4) hAk (λx hx=>by cases hx) (λx hx=>by cases hx),rfl,hB.frame _,λh=>by cases h⟩⟩
def apM(os:Os):laidMet Tryz.prog Rows.parseExprsUptoRow.laid ((ag6 os).forCall (λ_ _=>0) ⟨#[],#[.string ⟨#[]⟩],[]⟩).memory :=
 laidMet_of_run' 8 aS aS
def aBn(os:Os){H:Type}(enc:TypeId×Value->H):∃ places,DataW.whole enc Tryz.prog ((ag6 os).forCall (λ_ _=>0) ⟨#[],#[.string ⟨#[]⟩],[]⟩).memory Tryz.f3.params.toList Rows.parseExprsSpec.vars false (#[.string ⟨#[]⟩]:Array Value).toList 8=some ([.lit (.string [])],[],places) :=
 ⟨[],by kernel_rfl⟩
def al9(os:Os)(started:os.Started)(H:Type)(enc:TypeId×Value->H)(F:Stop.Interp) :
  ReturnsInHanded {} Tryz.checked os 3 .any ((Rows.OpenSpec.upto Rows.parseExprsSpec).preRow enc Tryz.prog Tryz.f3 Rows.parseExprsUptoRow.domain false Rows.parseExprsUptoRow.laid) (((Rows.OpenSpec.upto Rows.parseExprsSpec).at F).post enc Tryz.prog Tryz.f3 false true false false):=by
 obtain⟨places,hx⟩:=aBn os enc
 refine returnsInHanded_of_row (C:=Tryz.checked) (s:=Rows.OpenSpec.upto Rows.parseExprsSpec) own started aS Tryz.func3
  (witness_row_at (enc:=enc) (C:=Tryz.checked) false (ag6 os) #[.string ⟨#[]⟩] rfl aS aS aS
   (OpenSpec.preRow_of_cond 8 hx aS (λk hk=>by cases hk;kernel_rfl) aS (apM os))) ?_
 intro W base args ds gs before hval hW _ hcond _ hL hsh _
 exact apZ H enc W base args ds gs before hval hW hsh
end Go.Proofs.YtghkmcffifpkeaaGreat.parseExprs

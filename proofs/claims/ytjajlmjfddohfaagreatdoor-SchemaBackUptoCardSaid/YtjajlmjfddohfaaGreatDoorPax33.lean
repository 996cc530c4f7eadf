/-
  SchemaBack: the statement, and its card. Conditions: none.
-/
import Derived.Test.YtjajlmjfddohfaaGreatDoorPax32
set_option linter.defProp false
set_option linter.unusedSectionVars false
set_option maxRecDepth 100000
set_option maxHeartbeats 32000000
namespace Go.Proofs.YtjajlmjfddohfaaGreatDoor.schemaBack
open Go Go.Pe Go.Tab Go.RowKit Go.ChangeShapes Go.WideShapes Go.ChangeAt Go.Proofs.YtjajlmjfddohfaaGreatDoor Go.Proofs.YtjajlmjfddohfaaGreatDoor.card
theorem dt (f:FuncId) (fn:Func) (hf:Tryz.pinned.checked.prog.funcNamed "tabellion/tabellionlaw12.SchemaBack"=some f) (hfn:Tryz.pinned.checked.prog.funcs[f]?=some fn) :
  false=Tryz.pinned.checked.prog.looks []∧∀ (j:Nat) t,fn.params[j]?=some t→Tryz.pinned.checked.prog.wantsStandIn t=false:=by
 obtain rfl:f=5:=Option.some.inj ((show Tryz.prog.funcNamed "tabellion/tabellionlaw12.SchemaBack"=some 5 by kernel_rfl).symm.trans hf) |>.symm
 obtain rfl:fn=Tryz.f5:=(Option.some.inj (Tryz.func5.symm.trans hfn)).symm
 refine⟨by kernel_rfl,fun j t ht=>?_⟩
 rw[Tryz.params5] at ht
 have hm:=Array.mem_of_getElem? ht
 simp only[List.mem_toArray,List.mem_cons,List.not_mem_nil,or_false] at hm
 rcases hm with rfl|rfl
 .exact (show Tryz.prog.wantsStandIn 22=false by kernel_rfl)
 .exact (show Tryz.prog.wantsStandIn 38=false by kernel_rfl)
theorem SchemaBack_card:Rows.SchemaBackUptoCardSaid :=
 Claim7.holds_tied_plain_at .later [] _ _ _ _ ad6 (fun _ h=>by cases h) (by kernel_rfl) (fun _ h=>by cases h) schemaBackUpto_row_tie rfl ⟨rfl,rfl⟩ (by kernel_rfl) rfl dt (by kernel_rfl)
end Go.Proofs.YtjajlmjfddohfaaGreatDoor.schemaBack

/-
  PrintStmts: the statement, and its card. Conditions: none.
-/
import Derived.Test.YtemdljoideegeaaGreatDoorPax12
set_option linter.defProp false
set_option linter.unusedSectionVars false
set_option maxRecDepth 100000
set_option maxHeartbeats 64000000
namespace Go.Proofs.YtemdljoideegeaaGreatDoor.printStmts
open Go Go.Pe Go.Tab Go.RowKit Go.ChangeShapes Go.WideShapes Go.ChangeAt Go.Proofs.YtemdljoideegeaaGreatDoor Go.Proofs.YtemdljoideegeaaGreatDoor.card
def plain (f:FuncId) (fn:Func) (hf:Tryz.pinned.checked.prog.funcNamed "tabellion/tabellionlaw11.PrintStmts"=some f) (hfn:Tryz.pinned.checked.prog.funcs[f]?=some fn) :
  false=Tryz.pinned.checked.prog.looks []∧∀ (j:Nat) t,fn.params[j]?=some t→Tryz.pinned.checked.prog.wantsStandIn t=false:=by
 obtain rfl:f=3:=bn ((show Tryz.prog.funcNamed "tabellion/tabellionlaw11.PrintStmts"=some 3 by kernel_rfl).symm.trans hf) |>.symm
 obtain rfl:fn=Tryz.f3:=(bn (Tryz.func3.symm.trans hfn)).symm
 refine⟨by kernel_rfl,fun j t ht=>?_⟩
 rw[Tryz.params3] at ht
 have hm:=act ht
 simp only[List.mem_toArray,cX,aai,eV] at hm
 subst hm
 exact (show Tryz.prog.wantsStandIn 31=false by kernel_rfl)
theorem PrintStmts_card:Rows.PrintStmtsUptoCardSaid :=
 Claim7.holds_tied_plain_at .later [] _ _ _ _ an0 (fun _ h=>by cases h) (by kernel_rfl) (fun _ h=>by cases h) printStmtsUpto_row_tie rfl ⟨rfl,rfl⟩ (by kernel_rfl) rfl plain (by kernel_rfl)
end Go.Proofs.YtemdljoideegeaaGreatDoor.printStmts

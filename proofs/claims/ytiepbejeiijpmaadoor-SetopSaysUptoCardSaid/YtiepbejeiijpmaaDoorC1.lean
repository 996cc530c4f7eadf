/-
  SetopSays: the statement, and its card.
-/
import Derived.Test.YtiepbejeiijpmaaDoorT10
import Derived.Test.YtiepbejeiijpmaaDoorRd
import Derived.Test.YtiepbejeiijpmaaDoorCards
import Derived.Test.YtiepbejeiijpmaaDoorTie
import Derived.WalkKit
import Derived.ProofKit
import Derived.OpenShut
import Derived.Deep.DeepHandedRow
import Derived.Lib.LaidTab
namespace Go.Proofs.YtiepbejeiijpmaaDoor
open Go Go.Pe Go.Tab Go.RowKit Go.ChangeShapes Go.WideShapes Go.ChangeAt

theorem own : ownKnob Tryd.prog.godebug = none := by kernel_rfl
theorem laidOut : laidOutB Tryd.prog = true := by kernel_rfl
theorem gTab : Tryd.prog.globalNamed tabName = some 3 := by kernel_rfl
theorem gTabType : (Tryd.prog.globals[3]?).map (·.type) = some 115 := by kernel_rfl
theorem cellsTab : Tryd.prog.cellsOf 115 = 20 := by kernel_rfl
theorem cellsU64 : Tryd.prog.cellsOf 103 = 1 := by kernel_rfl
/-- The table, out of the row's list. -/
theorem table {W : World} {laid : List (String × DataW Unit)} (hf : (laid.filter fun x => x.1 == tabName) = [(tabName, Lib.tabData .u64 Lib.pow10Tab)]) (h : laidMet Tryd.prog laid W) : GT.holds W := by
  have h2 := h.filter fun x => x.1 == tabName
  rw [hf] at h2
  exact Lib.tabIs_of_head (rest := []) gTab gTabType Tryd.underlying115 Tryd.underlying103 cellsU64 cellsTab h2
theorem laid1 : (Rows.setopSaysUptoRow.laid.filter fun x => x.1 == tabName) = [(tabName, Lib.tabData .u64 Lib.pow10Tab)] := by kernel_rfl

theorem trodAll_stays {H : Type} {enc : TypeId × Value → H} {W W' : World} {sp : Nat → Bool} : ∀ {ts : List TypeId} {vs : List Value} {ds : List (DataW H)} {ps : List MemPlace}, (∀ t ∈ ts, Tryd.prog.readableRec t = true ∧ t < Tryd.prog.types.size) →
    DataW.TrodAll enc Tryd.prog W 0 (fun _ => true) true ts vs ds ps → (∀ p ∈ ps, W.sameAt W' p) → (∀ p ∈ ps, sp p.block = true) → DataW.TrodAll enc Tryd.prog W' 0 sp true ts vs ds ps
  | [], [], [], _, _, h, _, _ => h
  | _ :: _, _ :: _, _ :: _, _, hT, ⟨p, q, h1, h2, e⟩, hs, hsp =>
    ⟨p, q, WideElems.Trod_stays laidOut (hT _ (List.mem_cons.2 (.inl rfl))).1 (hT _ (List.mem_cons.2 (.inl rfl))).2 h1 (fun x hx => hs x (by rw [e]; exact List.mem_append_left _ hx)) (fun x hx => hsp x (by rw [e]; exact List.mem_append_left _ hx)),
      trodAll_stays (fun t ht => hT t (List.mem_cons.2 (.inr ht))) h2 (fun x hx => hs x (by rw [e]; exact List.mem_append_right _ hx)) (fun x hx => hsp x (by rw [e]; exact List.mem_append_right _ hx)), e⟩

/-- A call on plain data, as the machine says. -/
def kOf (W : World) : Know := ⟨memOf W, fun _ => none⟩
theorem plain_call {f : Nat} {xs : List X} {b : Bool} (h : G1 f xs (xbool b)) {fn : Func} (hfn : Tryd.prog.funcs[f]? = some fn) {W : World} (hT : GT.holds W) {vs : List Value} (hvs : RepXs (kOf W) (fun _ => none) xs vs) :
    Calls Tryd.prog f vs.toArray W fun e W' => e = .returned (.bool b) ∧ Below W.heap.size W W' := by
  have hG : ¬ ∃ c, Given (kOf W) (fun _ => none) c := by
    rintro ⟨c, ⟨r, hr⟩ | ⟨t, v, e, z, n, ht, _⟩⟩
    · cases hr
    · cases ht
  have hp : Hp ⟨GT, (kOf W).m, Given (kOf W) (fun _ => none)⟩ (kOf W) (fun _ => none) W W [] := {
    good := ⟨hT, fun c hc => ⟨(by
      have hc : Tryd.prog.globalNamed tabName = some c := hc
      have hT : Lib.TabIs Tryd.prog W tabName .u64 Lib.pow10Tab := hT
      unfold Lib.TabIs World.var? at hT
      rw [hc] at hT
      simp only [Option.bind_some] at hT
      rcases Nat.lt_or_ge c W.heap.size with h1 | h1
      · exact h1
      · rw [Array.getElem?_eq_none h1] at hT
        cases hT), fun hm => hG ⟨c, hm⟩⟩⟩
    below := Keeps.refl _ _
    mem := fun c o v hv => memOf_mem hv
    obj := fun r ob hr => by simp at hr
    dom := fun r c hr => by cases hr
    inj := fun r r' c hr => by cases hr
    tok := fun t v e z n ht => by cases ht
    tokne := fun t t' v e z n v' e' z' n' ht => by cases ht
    m0 := fun c o v hv _ _ => hv }
  refine (h.sound mixed pr_sound fn hfn (kOf W) (fun _ => none) W vs hp (fun t p ht => by cases ht) (fun r off p ht => by cases ht) hvs).mono ?_
  rintro e W' ⟨k', ow', us, he, hp', _, _, _, _, _, hus⟩
  simp only [RepXs, RepX, Rep] at hus
  obtain ⟨u, r, rfl, ⟨rfl, _⟩, rfl⟩ := hus
  refine ⟨he, ?_⟩
  have hb := hp'.below
  exact ⟨hb.os, hb.tape, hb.output, hb.size, fun c hc => hb.block c hc fun hm => hG ⟨c, hm⟩⟩

theorem bulk3 {H : Type} {d0 d1 d2 : DataW H} (h : Rows.uptoSmall H [d0, d1, d2] = true) : Rows.uptoBulk d0 ≤ 1048576 ∧ Rows.uptoBulk d1 ≤ 1048576 ∧ Rows.uptoBulk d2 ≤ 1048576 := by
  have := of_decide_eq_true h
  simp only [Rows.uptoBulkAll] at this
  omega

set_option maxRecDepth 100000 in
theorem okSl {W : World} {base : Nat} {t e : TypeId} {v : Value} (ht : Tryd.prog.underlying t = some (.slice e)) (h : Value.okWide Tryd.prog W .any base t v) : v.cells.toList = [v] := by
  obtain ⟨a, len, cap, rfl⟩ := okWide_slice ht h
  rfl
theorem kindsOk : ∀ t ∈ [22, 22, 4], Tryd.prog.readableRec t = true ∧ t < Tryd.prog.types.size := by
  intro t ht
  simp only [List.mem_cons, List.not_mem_nil, or_false] at ht
  rcases ht with rfl | rfl | rfl <;> exact ⟨by kernel_rfl, of_decide_eq_true (by kernel_rfl)⟩

set_option maxRecDepth 100000 in
theorem contract (H : Type) (enc : TypeId × Value → H) (W : World) (base : Nat) (args : Array Value) (ds gs : List (DataW H)) (before : List MemPlace)
    (hval : ∀ (j : Nat) t v, Tryd.f3.params[j]? = some t → args[j]? = some v → Value.okWide Tryd.prog W .any base t v)
    (hW : DataW.Whole enc Tryd.prog Tryd.f3.params.toList Rows.setopSaysSpec.vars false W args.toList ds gs before)
    (hc : ∀ k, (Rows.OpenSpec.upto Rows.setopSaysSpec).cond = some k → k H (ds ++ gs) = true) (hL : laidMetH Tryd.prog Rows.setopSaysUptoRow.laid W) :
    Calls Tryd.prog 3 args W fun e W' => ∃ v, e = .returned v ∧ Rows.setopSaysSpec.post enc Tryd.prog Tryd.f3 false true false false W args v W' := by
  have hW' := hW
  obtain ⟨p, q, hA0, hV, rfl, hfz, hnd⟩ := hW
  have hA : DataW.TrodAll enc Tryd.prog W 0 (fun _ => true) true Tryd.f3.params.toList args.toList ds p := hA0
  rw [Tryd.params3] at hA hval
  have hAk := hA
  obtain ⟨v0, v1, v2, d0, d1, d2, p0, p1, p2, rfl, rfl, rfl, h0, h1, h2⟩ := trodAll_three hA
  obtain ⟨rfl, rfl⟩ := trodVars_none hV
  have hb := bulk3 (hc _ rfl)
  obtain ⟨l0, r0, k0⟩ := read_rows rfl h0 (okSl Tryd.underlying22 (hval 0 _ v0 rfl rfl)) hb.1
  obtain ⟨l1, r1, k1⟩ := read_rows rfl h1 (okSl Tryd.underlying22 (hval 1 _ v1 rfl rfl)) hb.2.1
  obtain ⟨all, rfl, rfl, rfl⟩ := open_bool Tryd.underlying4 (hval 2 _ v2 rfl rfl) h2
  refine (plain_call (SetopSays_call l0 l1 all k0 k1) Tryd.func3 (table laid1 hL) (vs := [v0, v1, .bool all]) ⟨_, _, rfl, r0, _, _, rfl, r1, _, _, rfl, ⟨rfl, rfl⟩, rfl⟩).mono ?_
  rintro e W' ⟨rfl, hB⟩
  have hlt : ∀ x ∈ p0 ++ p1 ++ [], x.block < W.heap.size := fun x hx => by
    have := hW'.lt x (by simpa using hx)
    simpa using this
  exact ⟨_, rfl, ⟨_, _, _, [], _, [], hW', trodAll_mk1 (shut_bool Tryd.underlying4 _), trodAll_stays kindsOk hAk (fun x hx => hB.same (hlt x hx)) (fun x hx => by simpa using hlt x hx), rfl, hB.frame _, fun h => by cases h⟩⟩

/-- A world for the witness: the settled one, the listed tables holding what their initialisers lay. -/
def litsOf : DataW Unit → Array Value
  | .agg l => (l.map fun d => match d with
    | .lit (.int k n) => Value.int k n
    | _ => undef).toArray
  | _ => #[]
def putCells (vs : Array Value) : Obj → Obj
  | .cells _ t frozen => .cells vs t frozen
  | o => o
noncomputable def laidWorld (os : Os) : World :=
  { World.holding Tryd.prog os ⟨#[], #[], []⟩ with heap := (((World.holding Tryd.prog os ⟨#[], #[], []⟩).heap.modify 3 (putCells (litsOf Rows.laid_internal_strconv_uint64pow10))).modify 4 (putCells (litsOf Rows.laid_math_bits_deBruijn32tab))).modify 5 (putCells (litsOf Rows.laid_math_bits_deBruijn64tab)) }
set_option maxRecDepth 100000 in
theorem laid_met (os : Os) : laidMet Tryd.prog Rows.setopSaysUptoRow.laid ((laidWorld os).forCall (fun _ _ => 0) ⟨#[], #[.slice none 0 0, .slice none 0 0, .bool false], []⟩).memory :=
  laidMet_of_run' 8 (by kernel_rfl) (by kernel_rfl)
theorem reads (os : Os) {H : Type} (enc : TypeId × Value → H) : ∃ places, DataW.whole enc Tryd.prog ((laidWorld os).forCall (fun _ _ => 0) ⟨#[], #[.slice none 0 0, .slice none 0 0, .bool false], []⟩).memory Tryd.f3.params.toList Rows.setopSaysSpec.vars false #[Value.slice none 0 0, Value.slice none 0 0, Value.bool false].toList 8 = some ([.nil, .nil, .lit (.bool false)], [], places) :=
  ⟨[], by kernel_rfl⟩

set_option maxRecDepth 100000 in
theorem liftedUpto (os : Os) (started : os.Started) (H : Type) (enc : TypeId × Value → H) (F : Stop.Interp) :
    ReturnsInHanded {} Tryd.checked os 3 .any ((Rows.OpenSpec.upto Rows.setopSaysSpec).preRow enc Tryd.prog Tryd.f3 Rows.setopSaysUptoRow.domain false Rows.setopSaysUptoRow.laid) (((Rows.OpenSpec.upto Rows.setopSaysSpec).at F).post enc Tryd.prog Tryd.f3 false true false false) := by
  obtain ⟨places, hx⟩ := reads os enc
  refine returnsInHanded_of_row (C := Tryd.checked) (s := Rows.OpenSpec.upto Rows.setopSaysSpec) own started (by kernel_rfl) Tryd.func3
    (witness_row_at (enc := enc) (C := Tryd.checked) false (laidWorld os) #[.slice none 0 0, .slice none 0 0, .bool false] rfl (by kernel_rfl) (by kernel_rfl) (by kernel_rfl)
      (OpenSpec.preRow_of_cond 8 hx (by kernel_rfl) (fun k hk => by cases hk; kernel_rfl) (by kernel_rfl) (laid_met os))) ?_
  intro W base args ds gs before hval hW _ hcond _ hL _ _
  exact contract H enc W base args ds gs before hval hW hcond hL

theorem saidUpto : Rows.SetopSaysUptoSaid :=
  OpenClaim.holds_of_cond 3 Tryd.f3 rfl rfl rfl rfl rfl rfl rfl ⟨rfl, rfl, rfl, rfl, rfl⟩ rfl rfl rfl rfl rfl (by kernel_rfl) Tryd.func3 (by kernel_rfl)
    (of_decide_eq_true (by kernel_rfl)) (by unfold Func.isWrapper; first | (rw [if_pos (by decide +kernel)]; kernel_rfl) | (rw [if_neg (by decide +kernel)]; exact ⟨rfl, rfl⟩))
    (fun os started H enc _ F => by rw [OpenClaim.pre_eq_preRow]; exact liftedUpto os started H enc F)

/-- No parameter wants a stand-in; the program's own looks are off. -/
theorem plain (f : FuncId) (fn : Func) (hf : Tryd.pinned.checked.prog.funcNamed "tabellion/tabellionlaw34.SetopSays" = some f) (hfn : Tryd.pinned.checked.prog.funcs[f]? = some fn) :
    false = Tryd.pinned.checked.prog.looks [] ∧ ∀ (j : Nat) t, fn.params[j]? = some t → Tryd.pinned.checked.prog.wantsStandIn t = false := by
  obtain rfl : f = 3 := Option.some.inj ((show Tryd.prog.funcNamed "tabellion/tabellionlaw34.SetopSays" = some 3 by kernel_rfl).symm.trans hf) |>.symm
  obtain rfl : fn = Tryd.f3 := (Option.some.inj (Tryd.func3.symm.trans hfn)).symm
  refine ⟨by kernel_rfl, fun j t ht => ?_⟩
  rw [Tryd.params3] at ht
  have hm := Array.mem_of_getElem? ht
  simp only [List.mem_toArray, List.mem_cons, List.not_mem_nil, or_false] at hm
  rcases hm with rfl | rfl | rfl
  · exact (show Tryd.prog.wantsStandIn 22 = false by kernel_rfl)
  · exact (show Tryd.prog.wantsStandIn 22 = false by kernel_rfl)
  · exact (show Tryd.prog.wantsStandIn 4 = false by kernel_rfl)

theorem SetopSays_card : Rows.SetopSaysUptoCardSaid :=
  Claim7.holds_tied_plain_at .later [] _ _ _ _ saidUpto (fun _ h => by cases h) (by kernel_rfl) (fun _ h => by cases h) setopSaysUpto_row_tie rfl ⟨rfl, rfl⟩ (by kernel_rfl) rfl plain (by kernel_rfl)
end Go.Proofs.YtiepbejeiijpmaaDoor

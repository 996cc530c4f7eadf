/-
  Chapter 58: acts' lines; whether an act may be, as the document says, by the evaluator. Conditions: none.
-/
import Derived.Test.YtcmgabicladmlaaDoorPa8
import Derived.Lib.AtoiAllCases
import Derived.WalkKit
import Derived.BigCall
import Derived.LoopN
import Derived.Laws.IdiomRangeMap
import Derived.Handy
namespace Go.Tab
open Go Go.Pe

theorem dec_dig : ∀ u : Nat, ∀ c ∈ Lib.decDigits u, 48 ≤ c ∧ c ≤ 57
  | u => by
    unfold Lib.decDigits
    split
    · rename_i h
      intro c hc
      simp only [List.mem_cons, List.not_mem_nil, or_false] at hc
      subst hc
      obtain ⟨h1, h2, _⟩ := dig_at u h
      exact ⟨h1, h2⟩
    · rename_i h
      intro c hc
      simp only [List.mem_append, List.mem_cons, List.not_mem_nil, or_false] at hc
      rcases hc with hc | rfl
      · exact dec_dig (u / 10) c hc
      · obtain ⟨h1, h2, _⟩ := dig_at (u % 10) (Nat.mod_lt _ (by decide))
        exact ⟨h1, h2⟩
theorem fold_ge : ∀ (l : List UInt8) (acc : Nat), acc ≤ l.foldl digF acc
  | [], acc => Nat.le_refl _
  | c :: l, acc => by
    rw [List.foldl_cons]
    refine Nat.le_trans ?_ (fold_ge l _)
    unfold digF
    split <;> omega
theorem parse_fold : ∀ (l : List UInt8) (acc : Nat), (∀ c ∈ l, 48 ≤ c ∧ c ≤ 57) → l.foldl digF acc < 1844674407370955162 → Lib.parseUint10 acc l = .ok (l.foldl digF acc)
  | [], acc, _, _ => rfl
  | c :: l, acc, h, hb => by
    obtain ⟨h1, h2⟩ := h c (List.mem_cons_self ..)
    have e : digF acc c = acc * 10 + (c.toNat - 48) := by unfold digF; rw [if_pos ⟨h1, h2⟩]; omega
    rw [List.foldl_cons] at hb ⊢
    have hg := fold_ge l (digF acc c)
    have h1' : 48 ≤ c.toNat := h1
    have h2' : c.toNat ≤ 57 := h2
    rw [Lib.parseUint10, if_pos ⟨h1', h2'⟩, if_neg (by omega), if_neg (by omega), ← e]
    exact parse_fold l _ (fun x hx => h x (List.mem_cons_of_mem _ hx)) hb
theorem mag_dec (u : Nat) (h : u ≤ 1000000000000000) : Lib.parseMag (Lib.decDigits u) = .ok u := by
  obtain ⟨c, r, e, _⟩ := dec_head u
  unfold Lib.parseMag
  rw [if_neg (by rw [e]; simp), parse_fold _ 0 (dec_dig u) (by rw [dig_dec]; omega), dig_dec]
theorem atoi_itoa (n : Int) (h1 : -1000000000000000 ≤ n) (h2 : n ≤ 1000000000000000) : Lib.atoiAll (Lib.itoa n) = .ok n := by
  unfold Lib.itoa
  split
  · rename_i h
    rw [Lib.atoiAll_minus, mag_dec _ (by omega)]
    simp only [Lib.signed]
    rw [if_neg (by omega)]
    congr 1
    omega
  · rename_i h
    obtain ⟨c, r, e, h3, h4⟩ := dec_head n.toNat
    have h3' : 48 ≤ c.toNat := h3
    have hm := mag_dec n.toNat (by omega)
    rw [e] at hm ⊢
    rw [Lib.atoiAll_plain c r (by omega) (by omega), hm]
    simp only [Lib.signless]
    rw [if_neg (by omega)]
    congr 1
    omega
theorem numA_ok {s : List UInt8} {v : Int} (h : Lib.atoiAll s = .ok v) : numA s = if -1000000000000000 ≤ v ∧ v ≤ 1000000000000000 ∧ Lib.itoa v = s then some v else none := by
  split
  · rename_i hc
    obtain ⟨h1, h2, h3⟩ := hc
    rw [← h3]
    exact numA_itoa h1 h2
  · rename_i hc
    cases hn : numA s with
    | none => rfl
    | some n =>
      obtain ⟨h1, h2, h3⟩ := numA_some hn
      have := atoi_itoa n h1 h2
      rw [h3, h] at this
      cases this
      exact absurd ⟨h1, h2, h3⟩ hc
theorem numA_no {s : List UInt8} (h : ∀ v, Lib.atoiAll s ≠ .ok v) : numA s = none := by
  cases hn : numA s with
  | none => rfl
  | some n =>
    obtain ⟨h1, h2, h3⟩ := numA_some hn
    have := atoi_itoa n h1 h2
    rw [h3] at this
    exact absurd this (h n)
end Go.Tab
namespace Go.Proofs.YtcmgabicladmlaaDoor
open Go Go.Pe Go.Tab Go.RowKit
set_option linter.unusedSectionVars false

theorem below_bytes {w w' : World} (h : w' = w ∨ ∃ t, w' = Lib.bytesWorld w 5 t) : Below w.heap.size w w' := by
  rcases h with rfl | ⟨t, rfl⟩
  · exact Below.refl _ _
  · exact Lib.bytesWorld_below _ _ _
set_option maxRecDepth 100000 in
theorem numIn_walk (n : Int) (w : World) : Calls Tryd.prog 46 #[.int .i64 n] w fun e w' => e = .returned (.bool (decide (-1000000000000000 ≤ n ∧ n ≤ 1000000000000000))) ∧ w' = w := by
  go_enter Tryd.func46, Tryd.ntmps46
  go_wp2
  all_goals go_ret
  all_goals (simp_all <;> omega)
set_option maxRecDepth 100000 in
theorem numText_walk (n : Int) (h0 : -9223372036854775808 ≤ n) (h1 : n ≤ 9223372036854775807) (w : World) (hG : GT.holds w) : Calls Tryd.prog 22 #[.int .i64 n] w fun e w' => e = .returned (.string ⟨(Lib.itoa n).toArray⟩) ∧ Below w.heap.size w w' := by
  go_enter Tryd.func22, Tryd.ntmps22
  go_wp2_with (go_at_call 36; refine (Tryd.strconv_Itoa n h0 h1 _ hG.1).mono ?_; rintro e w' ⟨rfl, k, os, rfl⟩)
  go_ret
  exact ⟨rfl, Lib.below_grow _ _ (Nat.le_refl _) _ _⟩
/-- The number and whether there is one. -/
noncomputable def numV (s : List UInt8) : Int := (numA s).getD 0
noncomputable def numB (s : List UInt8) : Bool := (numA s).isSome
theorem numVB_none {s : List UInt8} (h : numA s = none) : numV s = 0 ∧ numB s = false := by simp [numV, numB, h]
theorem numVB_some {s : List UInt8} {n : Int} (h : numA s = some n) : numV s = n ∧ numB s = true := by simp [numV, numB, h]
set_option maxRecDepth 100000 in
theorem numParse_walk (s : ByteArray) (hs : s.size < 4294967281) (w : World) (hG : GT.holds w) : Calls Tryd.prog 31 #[.string s] w fun e w' => e = .returned (.tuple #[.int .i64 (numV s.data.toList), .bool (numB s.data.toList)]) ∧ Below w.heap.size w w' := by
  obtain ⟨e1, he1, h1⟩ := hG.2.2.1
  obtain ⟨e2, he2, h2⟩ := hG.2.2.2
  cases h : Lib.atoiAll s.data.toList with
  | ok v =>
    have hb := Lib.atoiAll_bounds h
    have hn := numA_ok h
    go_enter Tryd.func31, Tryd.ntmps31
    go_wp2_with (go_at_call 45; refine (Tryd.strconv_Atoi_ok s (by omega) v h _).mono ?_)
    rintro e w1 ⟨rfl, hw⟩
    have hB1 := below_bytes hw
    clear hw
    have hG1 := GTgrow hG hB1
    go_wp2_with (go_at_call 46; refine (numIn_walk v _).mono ?_; rintro e w2 ⟨rfl, rfl⟩)
    · rename_i hin _ _
      simp only [hin.1, hin.2, true_and] at hn
      refine (numText_walk v (by omega) (by omega) _ hG1).mono ?_
      rintro e w3 ⟨rfl, hB2⟩
      go_wp2
      · rename_i hne
        have hne' : ¬ Lib.itoa v = s.data.toList := by
          intro e
          rw [ByteArray.toList_eq, e] at hne
          simp at hne
        rw [if_neg hne'] at hn
        obtain ⟨q1, q2⟩ := numVB_none hn
        go_ret2
        rw [q1, q2]
        exact ⟨rfl, hB1.trans (hB2.mono hB1.size)⟩
      · rename_i hne
        have hne' : Lib.itoa v = s.data.toList := by
          rw [ByteArray.toList_eq] at hne
          simpa using hne
        rw [if_pos hne'] at hn
        obtain ⟨q1, q2⟩ := numVB_some hn
        go_ret2
        rw [q1, q2]
        exact ⟨rfl, hB1.trans (hB2.mono hB1.size)⟩
    · rename_i hin
      rw [if_neg (fun e => hin ⟨e.1, e.2.1⟩)] at hn
      obtain ⟨q1, q2⟩ := numVB_none hn
      go_ret2
      rw [q1, q2]
      exact ⟨rfl, hB1⟩
  | range =>
    obtain ⟨q1, q2⟩ := numVB_none (numA_no (s := s.data.toList) (fun v => by rw [h]; intro e; cases e))
    rw [q1, q2]
    go_enter Tryd.func31, Tryd.ntmps31
    go_wp2_with (go_at_call 45; refine (Tryd.strconv_Atoi_range s (by omega) h e2 _ ?_ h2).mono ?_)
    · exact he2
    rintro e W1 ⟨N, rfl, -, -, hb⟩
    go_wp2
    go_ret2
    exact ⟨rfl, hb⟩
  | _ =>
    obtain ⟨q1, q2⟩ := numVB_none (numA_no (s := s.data.toList) (fun v => by rw [h]; intro e; cases e))
    rw [q1, q2]
    go_enter Tryd.func31, Tryd.ntmps31
    go_wp2_with (go_at_call 45; refine (Tryd.strconv_Atoi_syntax s (by omega) h e1 _ ?_ h1).mono ?_)
    · exact he1
    rintro e W1 ⟨N, rfl, -, -, hb⟩
    go_wp2
    go_ret2
    exact ⟨rfl, hb⟩
end Go.Proofs.YtcmgabicladmlaaDoor
namespace Go.Proofs.YtcmgabicladmlaaDoor
open Go Go.Pe Go.Tab Go.RowKit
set_option linter.unusedSectionVars false

/-- A step of a range over a map, by what the heap holds. -/
theorem next_law {P : Program} (w : World) (ty : TypeId) (r bm since c0 : Nat) (seen : Array Nat) (es : Array MapEntry) (clock : Nat) (hr : w.heap[r]? = some (.mapIter (some bm) since seen c0)) (hb : w.heap[bm]? = some (.map es clock)) (hold : ∀ x ∈ es.toList, x.born < since) (hsc : since ≤ c0) :
    ((leftOf es seen).size = 0 ∧ (Instr.next (.pointer (some ⟨r, 0, none⟩)) false ty).run P w = .ok (.tuple #[.bool false]) w) ∨
    ∃ e ∈ (leftOf es seen).toList, ∃ w1 : World, w1.heap = w.heap.setIfInBounds r (.mapIter (some bm) since (seen.push e.born) clock) ∧ w1.os = w.os ∧ w1.tape = w.tape ∧ w1.output = w.output ∧ (Instr.next (.pointer (some ⟨r, 0, none⟩)) false ty).run P w = .ok (.tuple #[.bool true, e.key, e.val]) w1 := by
  simp only [Instr.next, getObj, Sem.run_bind, Sem.run, hr, hb, Result.andThen, next_test_false seen es since c0 hold hsc, Bool.false_eq_true, if_false]
  unfold leftOf
  have hmem : ∀ x ∈ (Array.filter (fun e => !seen.contains e.born) es).toList, x.born < since := fun x hx => hold x (by simp at hx ⊢; exact hx.1)
  generalize Array.filter (fun e => !seen.contains e.born) es = L at hmem ⊢
  have e1 : L.filter (fun x => decide (x.born < since)) = L := Array.filter_eq_self.2 (fun x hx => by simpa using hmem x (by simpa using hx))
  have e2 : L.filter (fun x => decide (x.born ≥ since)) = #[] := by
    rw [Array.filter_eq_empty_iff]
    intro x hx
    have := hmem x (by simpa using hx)
    simp
    omega
  simp only [e1, e2, Array.append_empty]
  by_cases h0 : L.size = 0
  · left
    have : L = #[] := Array.eq_empty_of_size_eq_zero h0
    subst this
    refine ⟨rfl, ?_⟩
    simp [choose, Sem.run, Question.forced]
  · right
    have hne : L.isEmpty = false := by simp [Array.isEmpty, h0]
    simp only [hne, Bool.false_eq_true, if_false, Array.empty_append, Array.size_map]
    have hch : ∃ (j : Nat) (w1 : World), j < L.size ∧ w1.heap = w.heap ∧ w1.os = w.os ∧ w1.tape = w.tape ∧ w1.output = w.output ∧ (choose (Question.mapNext L.size)).run P w = .ok j w1 := by
      by_cases hf : L.size ≤ 1
      · exact ⟨0, w, by omega, rfl, rfl, rfl, rfl, by simp [choose, Sem.run, Question.forced, hf]⟩
      · exact ⟨_, w.drew, Nat.mod_lt _ (by omega), rfl, rfl, rfl, rfl, by
          simp only [choose, Sem.run, Question.forced, decide_eq_true_eq, hf, if_false, Question.cut]
          rfl⟩
    obtain ⟨j, w1, hj, g1, g2, g3, g4, hrun⟩ := hch
    refine ⟨L[j], by simp, { w1 with heap := w1.heap.setIfInBounds r (.mapIter (some bm) since (seen.push L[j].born) clock) }, by simp only [g1], g2, g3, g4, ?_⟩
    have hset : ∀ o' : Obj, (setObj r o').run P w1 = .ok () { w1 with heap := w1.heap.setIfInBounds r o' } := fun o' => by
      simp only [setObj, Sem.run, g1, hr]
    simp only [hrun, Array.getElem?_map, Array.getElem?_eq_getElem hj, Option.map_some, Sem.run_bind, hset, Result.andThen]
    rfl
theorem entry_law {P : Program} (w : World) (r bm since : Nat) (seen : Array Nat) (es : Array MapEntry) (clock : Nat) (e : MapEntry) (hr : w.heap[r]? = some (.mapIter (some bm) since (seen.push e.born) clock)) (hb : w.heap[bm]? = some (.map es clock)) (he : e ∈ es.toList) (hn : (es.toList.map (·.born)).Nodup) :
    (Instr.entry (.pointer (some ⟨r, 0, none⟩))).run P w = .ok (.tuple #[e.key, e.val]) w := by
  have hf : es.find? (·.born == e.born) = some e := by rw [← Array.find?_toList]; exact find_born e es.toList hn he
  simp only [Instr.entry, getObj, Sem.run_bind, Sem.run, hr, hb, Result.andThen, Array.back?_push, bne_self_eq_false, Bool.false_eq_true, if_false, hf]
  rfl
def powS : ByteArray := ⟨#[112, 111, 119, 101, 114, 32]⟩
def fluS : ByteArray := ⟨#[102, 108, 117, 115, 104, 32]⟩
def en1 : MapEntry := { key := .string powS, val := .int .i64 2, born := 0 }
def en2 : MapEntry := { key := .string fluS, val := .int .i64 4, born := 1 }
def esW : Array MapEntry := #[en1, en2]
theorem push_at (h : Array Obj) (x y : Obj) : (h.push x).setIfInBounds h.size y = h.push y := by
  apply Array.toList_inj.1
  simp
theorem push_set (w : World) (o o' : Obj) : ({ w.alloc o with heap := (w.alloc o).heap.setIfInBounds w.heap.size o' } : World) = w.alloc o' := by
  show ({ w.alloc o with heap := (w.heap.push o).setIfInBounds w.heap.size o' } : World) = _
  rw [push_at]
  rfl
theorem insert_new (w : World) (es : Array MapEntry) (cl : Nat) (k : ByteArray) (v : Value) (hn : Instr.findNow .string (.string k) es.toList 0 = some none) :
    (Instr.mapUpdate 60 (.map (some w.heap.size)) (.string k) v).run Tryd.prog (w.alloc (.map es cl)) = .ok () (w.alloc (.map (es.push { key := .string k, val := v, born := cl }) (cl + 1))) := by
  have hh := heap_alloc_new w (.map es cl)
  simp only [Instr.mapUpdate, Sem.run_bind, run_underlying Tryd.underlying60, Result.andThen_ok, MapKept.run_getObj_map hh, run_checkKey (run_underlying Tryd.underlying9 _) rfl]
  rw [run_findKey (run_underlying Tryd.underlying9 _) hn]
  simp only [Result.andThen_ok]
  rw [MapKept.run_setObj_map _ hh, push_set]
theorem insert_1 (w : World) : (Instr.mapUpdate 60 (.map (some w.heap.size)) (.string powS) (.int .i64 2)).run Tryd.prog (w.alloc (.map #[] 0)) = .ok () (w.alloc (.map #[en1] 1)) := insert_new w #[] 0 powS _ rfl
theorem insert_2 (w : World) : (Instr.mapUpdate 60 (.map (some w.heap.size)) (.string fluS) (.int .i64 4)).run Tryd.prog (w.alloc (.map #[en1] 1)) = .ok () (w.alloc (.map esW 2)) := insert_new w #[en1] 1 fluS _ (by kernel_rfl)
section
variable (s : List UInt8)
def isP : Bool := Lib.hasPrefix s [112, 111, 119, 101, 114, 32]
def isF : Bool := Lib.hasPrefix s [102, 108, 117, 115, 104, 32]
def kdL (p f : Bool) : Int := if p then 2 else if f then 4 else 1
def hdL (p f : Bool) : List UInt8 := if p || f then s.drop 6 else (Lib.cut s [58, 32]).1
def okL (p f : Bool) : Bool := p || f || (Lib.cut s [58, 32]).2.2
theorem not_both : isP s = true → isF s = false := by
  intro h
  unfold isP isF Lib.hasPrefix at *
  cases s with
  | nil => simp at h
  | cons c r =>
    simp only [List.isPrefixOf, Bool.and_eq_true, beq_iff_eq] at h ⊢
    rw [← h.1]
    rfl
theorem pre_take (p : List UInt8) (hp : p.length = 6) : (Lib.hasPrefix s p = true) ↔ s.take 6 = p := by
  unfold Lib.hasPrefix
  rw [List.isPrefixOf_iff_prefix, List.prefix_iff_eq_take, hp]
  exact eq_comm
noncomputable def finA (k : Int) (h : List UInt8) (ok : Bool) (r : List UInt8) : Ac × Int :=
  if ok = true ∧ numB h = true then toldA (if k = 1 then ⟨1, numV h, 0, r⟩ else ⟨k, 0, numV h, []⟩) else (ac0, 2)
theorem one_fin (h1 : s ≠ [111, 112, 101, 110]) (h2 : s ≠ [99, 104, 101, 99, 107, 112, 111, 105, 110, 116]) : oneA s = finA (kdL (isP s) (isF s)) (hdL s (isP s) (isF s)) (okL s (isP s) (isF s)) (Lib.cut s [58, 32]).2.1 := by
  unfold oneA
  rw [if_neg h1, if_neg h2]
  have e1 := pre_take s [112, 111, 119, 101, 114, 32] rfl
  have e2 := pre_take s [102, 108, 117, 115, 104, 32] rfl
  by_cases c1 : s.take 6 = [112, 111, 119, 101, 114, 32]
  · have p1 : isP s = true := e1.2 c1
    rw [if_pos c1, p1]
    simp only [kdL, hdL, okL, Bool.true_or, if_true, finA, true_and]
    unfold numB numV
    cases hn : numA (s.drop 6) <;> simp
  · have p1 : isP s = false := by rw [Bool.eq_false_iff]; exact fun h => c1 (e1.1 h)
    rw [if_neg c1, p1]
    by_cases c2 : s.take 6 = [102, 108, 117, 115, 104, 32]
    · have p2 : isF s = true := e2.2 c2
      rw [if_pos c2, p2]
      simp only [kdL, hdL, okL, Bool.false_or, Bool.true_or, Bool.false_eq_true, if_false, if_true, finA, true_and]
      unfold numB numV
      cases hn : numA (s.drop 6) <;> simp
    · have p2 : isF s = false := by rw [Bool.eq_false_iff]; exact fun h => c2 (e2.1 h)
      rw [if_neg c2, p2, cut_cs]
      simp only [kdL, hdL, okL, Bool.false_or, Bool.or_false, Bool.false_eq_true, if_false, finA, cut_cs]
      cases hc : cutA s with
      | none => simp
      | some p =>
        obtain ⟨a, r⟩ := p
        simp only [true_and, if_true]
        unfold numB numV
        cases hn : numA a <;> simp
end
end Go.Proofs.YtcmgabicladmlaaDoor
namespace Go.Proofs.YtcmgabicladmlaaDoor
open Go Go.Pe Go.Tab Go.RowKit
set_option linter.unusedSectionVars false

theorem cut_walk (s : ByteArray) (hs : s.size < 4294967281) (w : World) (m : Int) (hm : w.cell? ⟨0, 0, none⟩ = some (.int .i64 m)) : Calls Tryd.prog 18 #[.string s, .string ⟨#[58, 32]⟩] w fun e w' => e = .returned (.tuple #[.string (strL (Lib.cut s.data.toList [58, 32]).1), .string (strL (Lib.cut s.data.toList [58, 32]).2.1), .bool (Lib.cut s.data.toList [58, 32]).2.2]) ∧ w'.heap = w.heap ∧ Below w.heap.size w w' := by
  refine (Tryd.strings_Cut s ⟨#[58, 32]⟩ m w hs hm).mono ?_
  rintro e w' ⟨rfl, n, rfl⟩
  exact ⟨rfl, rfl, ⟨rfl, rfl, rfl, Nat.le_refl _, fun _ _ => rfl⟩⟩
theorem one_open : oneA [111, 112, 101, 110] = (⟨3, 0, 0, []⟩, 0) := by unfold oneA; rw [if_pos rfl]
theorem one_check : oneA [99, 104, 101, 99, 107, 112, 111, 105, 110, 116] = (⟨5, 0, 0, []⟩, 0) := by unfold oneA; rw [if_neg (by decide), if_pos rfl]
abbrev actV (k w n : Int) (t : ByteArray) : Array Value := #[.int .i64 k, .int .i64 w, .int .i64 n, .string t]
abbrev actO (k w n : Int) (t : ByteArray) : Obj := .cells (actV k w n t) 40 (0, 0)
theorem esW_old : ∀ x ∈ esW.toList, x.born < 2 := by
  intro x hx
  simp only [esW, List.mem_cons, List.not_mem_nil, or_false] at hx
  rcases hx with rfl | rfl <;> decide
theorem hd_len (s : List UInt8) (p f : Bool) : (hdL s p f).length ≤ s.length := by
  unfold hdL
  split
  · rw [List.length_drop]; omega
  · rw [cut_cs]
    cases hc : cutA s with
    | none => exact Nat.le_refl _
    | some q =>
      obtain ⟨a, r⟩ := q
      have := congrArg List.length (cutA_some hc)
      simp only [List.length_append, List.length_cons] at this ⊢
      omega
theorem cut_len (s : List UInt8) : (Lib.cut s [58, 32]).2.1.length ≤ s.length := by
  rw [cut_cs]
  cases hc : cutA s with
  | none => exact Nat.zero_le _
  | some q =>
    obtain ⟨a, r⟩ := q
    have := congrArg List.length (cutA_some hc)
    simp only [List.length_append, List.length_cons] at this ⊢
    omega
theorem may_walk (k w' n : Int) (t : List UInt8) (ht : t.length < 4294967281) (w : World) (hG : GT.holds w) : Calls Tryd.prog 14 #[.agg (actV k w' n (strL t))] w fun e w1 => e = .returned (.bool (mayA ⟨k, w', n, t⟩)) ∧ Below w.heap.size w w1 := by
  refine plain_gives (vs := [.agg (actV k w' n (strL t))]) pr0_sound (may_call k w' n t ht) Tryd.func14 hG (m := fun _ _ => none) (fun _ _ _ h => by cases h) ?_
  simp only [RepXs, RepX, Rep, RepL]
  exact ⟨_, _, rfl, ⟨[.int .i64 k, .int .i64 w', .int .i64 n, .string (strL t)], rfl, (by intro u hu; simp only [List.mem_cons, List.not_mem_nil, or_false] at hu; rcases hu with rfl | rfl | rfl | rfl <;> rfl), _, _, rfl, ⟨rfl, rfl⟩, _, _, rfl, ⟨rfl, rfl⟩, _, _, rfl, ⟨rfl, rfl⟩, _, _, rfl, ⟨rfl, rfl⟩, rfl⟩, rfl⟩
theorem cells_of {w : World} {b : Nat} {k w' n : Int} {t : ByteArray} (h : w.heap[b]? = some (actO k w' n t)) : w.cell? ⟨b, 0, none⟩ = some (.int .i64 k) ∧ w.cell? ⟨b, 1, none⟩ = some (.int .i64 w') ∧ w.cell? ⟨b, 2, none⟩ = some (.int .i64 n) ∧ w.cell? ⟨b, 3, none⟩ = some (.string t) := by
  refine ⟨?_, ?_, ?_, ?_⟩ <;> simp [World.cell?, h]
theorem frozen_of {w : World} {b o : Nat} {k w' n : Int} {t : ByteArray} (h : w.heap[b]? = some (actO k w' n t)) : w.frozen? ⟨b, o, none⟩ = false := by simp [World.frozen?, h]
theorem esW_nd : (esW.toList.map (·.born)).Nodup := by decide
structure At4 (w : World) (b : Nat) (k w' n : Int) (t : ByteArray) : Prop where
  c0 : w.cell? ⟨b, 0, none⟩ = some (.int .i64 k)
  c1 : w.cell? ⟨b, 1, none⟩ = some (.int .i64 w')
  c2 : w.cell? ⟨b, 2, none⟩ = some (.int .i64 n)
  c3 : w.cell? ⟨b, 3, none⟩ = some (.string t)
theorem at4_of {w : World} {b : Nat} {k w' n : Int} {t : ByteArray} (h : w.heap[b]? = some (actO k w' n t)) : At4 w b k w' n t := by
  obtain ⟨h0, h1, h2, h3⟩ := cells_of h
  exact ⟨h0, h1, h2, h3⟩
theorem addr_ne {b o o' : Nat} (h : o ≠ o') : (⟨b, o, none⟩ : Addr) ≠ ⟨b, o', none⟩ := fun e => h (by cases e; rfl)
theorem addr_nb {b b' o o' : Nat} (h : b ≠ b') : (⟨b, o, none⟩ : Addr) ≠ ⟨b', o', none⟩ := fun e => h (by cases e; rfl)
section
variable {w : World} {b : Nat} {k w' n : Int} {t : ByteArray} (h : At4 w b k w' n t)
include h
theorem At4.s0 (x : Int) : At4 (w.setCell ⟨b, 0, none⟩ (.int .i64 x)) b x w' n t :=
  ⟨World.cell?_setCell_same _ _ _ h.c0, (World.cell?_setCell_other _ _ _ _ (addr_ne (by decide))).trans h.c1, (World.cell?_setCell_other _ _ _ _ (addr_ne (by decide))).trans h.c2, (World.cell?_setCell_other _ _ _ _ (addr_ne (by decide))).trans h.c3⟩
theorem At4.s1 (x : Int) : At4 (w.setCell ⟨b, 1, none⟩ (.int .i64 x)) b k x n t :=
  ⟨(World.cell?_setCell_other _ _ _ _ (addr_ne (by decide))).trans h.c0, World.cell?_setCell_same _ _ _ h.c1, (World.cell?_setCell_other _ _ _ _ (addr_ne (by decide))).trans h.c2, (World.cell?_setCell_other _ _ _ _ (addr_ne (by decide))).trans h.c3⟩
theorem At4.s2 (x : Int) : At4 (w.setCell ⟨b, 2, none⟩ (.int .i64 x)) b k w' x t :=
  ⟨(World.cell?_setCell_other _ _ _ _ (addr_ne (by decide))).trans h.c0, (World.cell?_setCell_other _ _ _ _ (addr_ne (by decide))).trans h.c1, World.cell?_setCell_same _ _ _ h.c2, (World.cell?_setCell_other _ _ _ _ (addr_ne (by decide))).trans h.c3⟩
theorem At4.s3 (x : ByteArray) : At4 (w.setCell ⟨b, 3, none⟩ (.string x)) b k w' n x :=
  ⟨(World.cell?_setCell_other _ _ _ _ (addr_ne (by decide))).trans h.c0, (World.cell?_setCell_other _ _ _ _ (addr_ne (by decide))).trans h.c1, (World.cell?_setCell_other _ _ _ _ (addr_ne (by decide))).trans h.c2, World.cell?_setCell_same _ _ _ h.c3⟩
theorem At4.s4 (x y z : Int) (u : ByteArray) : At4 ((((w.setCell ⟨b, 0, none⟩ (.int .i64 x)).setCell ⟨b, 1, none⟩ (.int .i64 y)).setCell ⟨b, 2, none⟩ (.int .i64 z)).setCell ⟨b, 3, none⟩ (.string u)) b x y z u := (((h.s0 x).s1 y).s2 z).s3 u
theorem At4.out {b' o : Nat} (hb : b' ≠ b) (v : Value) : At4 (w.setCell ⟨b', o, none⟩ v) b k w' n t :=
  ⟨(World.cell?_setCell_other _ _ _ _ (addr_nb hb)).trans h.c0, (World.cell?_setCell_other _ _ _ _ (addr_nb hb)).trans h.c1, (World.cell?_setCell_other _ _ _ _ (addr_nb hb)).trans h.c2, (World.cell?_setCell_other _ _ _ _ (addr_nb hb)).trans h.c3⟩
theorem At4.below {B : Nat} {w2 : World} (hB : Below B w w2) (hb : b < B) : At4 w2 b k w' n t :=
  ⟨(hB.cell hb).trans h.c0, (hB.cell hb).trans h.c1, (hB.cell hb).trans h.c2, (hB.cell hb).trans h.c3⟩
theorem At4.load : (loadVar 40 ⟨b, 0, none⟩).run Tryd.prog w = .ok (.agg (actV k w' n t)) w :=
  run_loadVar_cells (P := Tryd.prog) T40 b 0 [.int .i64 k, .int .i64 w', .int .i64 n, .string t] (Nat.le_refl _) (fun i u hi => by
    simp only [Nat.zero_add]
    match i, hi with
    | 0, hi => cases hi; exact h.c0
    | 1, hi => cases hi; exact h.c1
    | 2, hi => cases hi; exact h.c2
    | 3, hi => cases hi; exact h.c3
    | i + 4, hi => simp at hi) (fun h => by cases h)
theorem ret_one {tmps : Array Value} {e : Int} (h2 : tmps.getD 2 undef = .pointer (some ⟨b, 0, none⟩)) (h3 : tmps.getD 3 undef = .int .i64 e) :
    (results Tryd.f19 tmps).run Tryd.prog w = .ok (.tuple #[.agg (actV k w' n t), .int .i64 e]) w := by
  rw [results_cell_tmp rfl, h2, h3]
  have : (asAddr (Value.pointer (some ⟨b, 0, none⟩))).run Tryd.prog w = .ok ⟨b, 0, none⟩ w := rfl
  simp only [this, Result.andThen_ok, h.load]
end
theorem act_set0 {w : World} {b : Nat} {k w' n : Int} {t : ByteArray} (h : w.heap[b]? = some (actO k w' n t)) (x : Int) : (w.setCell ⟨b, 0, none⟩ (.int .i64 x)).heap[b]? = some (actO x w' n t) := by
  simp only [World.setCell, Array.getElem?_modify, if_true, h, Option.map_some]
  rfl
theorem setCell_out (w : World) {b o : Nat} (x : Value) {k : Nat} (h : k ≠ b) : (w.setCell ⟨b, o, none⟩ x).heap[k]? = w.heap[k]? := by
  simp only [World.setCell, Array.getElem?_modify]
  rw [if_neg (Ne.symm h)]
theorem iter_of {w : World} {r a c : Nat} {b : Option Nat} {sn : Array Nat} (h : w.heap[r]? = some (.mapIter b a sn c)) : w.iterSeen r = sn := by
  unfold World.iterSeen
  rw [h]
/-- A round's start, behind the step. -/
theorem stepped {w wr w2 : World} {B r bm : Nat} {it : Obj} (hr : r = B + 2 + 1) (hb : bm = B + 2) (qB : Below B w wr) (g1 : w2.heap = wr.heap.setIfInBounds r it) (g2 : w2.os = wr.os) (g3 : w2.tape = wr.tape) (g4 : w2.output = wr.output) (q : wr.heap[r]?.isSome = true) :
    w2.heap[r]? = some it ∧ (∀ j, j ≠ r → w2.heap[j]? = wr.heap[j]?) ∧ Below B w w2 := by
  have hlt : r < wr.heap.size := by
    rcases Nat.lt_or_ge r wr.heap.size with h | h
    · exact h
    · rw [Array.getElem?_eq_none h] at q; cases q
  have ho : ∀ j, j ≠ r → w2.heap[j]? = wr.heap[j]? := fun j hj => by rw [g1, Array.getElem?_setIfInBounds_ne (Ne.symm hj)]
  refine ⟨by rw [g1]; simp [hlt], ho, ⟨g2.trans qB.os, g3.trans qB.tape, g4.trans qB.output, by rw [g1, Array.size_setIfInBounds]; exact qB.size, fun k hk => (ho k (by omega)).trans (qB.block k hk)⟩⟩
set_option maxHeartbeats 4000000 in
set_option maxRecDepth 100000 in
theorem one_walk (s : ByteArray) (hs : s.size < 4294967281) (w : World) (hG : GT.holds w) : Calls Tryd.prog 19 #[.string s] w fun e w' => e = .returned (.tuple #[.agg #[.int .i64 (oneA s.data.toList).1.k, .int .i64 (oneA s.data.toList).1.w, .int .i64 (oneA s.data.toList).1.n, .string (strL (oneA s.data.toList).1.t)], .int .i64 (oneA s.data.toList).2]) ∧ Below w.heap.size w w' := by
  obtain ⟨R, hR⟩ : ∃ R, oneA s.data.toList = R := ⟨_, rfl⟩
  rw [hR]
  obtain ⟨m, hm⟩ := hG.2.1
  have hlt0 : (⟨0, 0, none⟩ : Addr).block < w.heap.size := GTlt hG (.inr (.inl rfl))
  go_enter Tryd.func19, Tryd.ntmps19
  go_wp2_with (go_at_call 18; refine (cut_walk s hs _ m ?_).mono ?_)
  · rename_i h
    have h' : s.data.toList = [111, 112, 101, 110] := by rw [ByteArray.toList_eq] at h; simpa using h
    go_returns
    rw [h', one_open] at hR
    subst hR
    refine ⟨?_, (Below.refl _ w).alloc (Nat.le_refl _) _⟩
    rfl
  · rename_i h0 h
    have h' : s.data.toList = [99, 104, 101, 99, 107, 112, 111, 105, 110, 116] := by rw [ByteArray.toList_eq] at h; simpa using h
    go_returns
    rw [h', one_check] at hR
    subst hR
    refine ⟨?_, (Below.refl _ w).alloc (Nat.le_refl _) _⟩
    rfl
  · rename_i h0 h1 _ _ _ _
    have n0 : s.data.toList ≠ [111, 112, 101, 110] := by rw [ByteArray.toList_eq] at h0; simpa using h0
    have n1 : s.data.toList ≠ [99, 104, 101, 99, 107, 112, 111, 105, 110, 116] := by rw [ByteArray.toList_eq] at h1; simpa using h1
    rintro e w1 rfl hh hB
    have hsz : w1.heap.size = w.heap.size + 2 := by rw [hh]; simp
    have b2 : w1.heap[w.heap.size]? = some (actO 0 0 0 ⟨#[]⟩) := by
      rw [hh, heap_alloc_old _ _ (by simp)]
      exact heap_alloc_new _ _
    have b4 : w1.heap[w.heap.size + 1]? = some (actO 1 0 0 ⟨#[]⟩) := by
      rw [hh]
      have := heap_alloc_new (w.alloc (.cells #[Value.int IntKind.i64 0, Value.int IntKind.i64 0, Value.int IntKind.i64 0, Value.string { data := #[] }] 40)) (.cells #[Value.int IntKind.i64 1, Value.int IntKind.i64 0, Value.int IntKind.i64 0, Value.string { data := #[] }] 40)
      simpa using this
    have hB1 : Below w.heap.size w w1 := (((Below.refl _ w).alloc (Nat.le_refl _) _).alloc (by simp) _).trans (hB.mono (by omega))
    clear hh hB
    rw [one_fin _ n0 n1] at hR
    have hmk : (Instr.makeMap 60 none).run Tryd.prog w1 = .ok (.map (some w1.heap.size)) (w1.alloc (.map #[] 0)) := rfl
    have hi1 := insert_1 w1
    have hi2 := insert_2 w1
    simp only [powS, fluS] at hi1 hi2
    have hrg := run_range_map (P := Tryd.prog) (w1.alloc (.map esW 2)) 60 9 3 w1.heap.size esW 2 Tryd.underlying60 (heap_alloc_new _ _)
    simp only [World.size_alloc, hsz] at hmk hi1 hi2 hrg
    go_wp2
    go_loopw [5, 7] (fun h o wr => ∃ seen : Array Nat, wr.heap[w.heap.size + 2]? = some (.map esW 2) ∧ wr.heap[w.heap.size + 2 + 1]? = some (.mapIter (some (w.heap.size + 2)) 2 seen 2) ∧ wr.heap[w.heap.size]? = some (actO 0 0 0 ⟨#[]⟩) ∧
        wr.heap[w.heap.size + 1]? = some (actO (kdL (isP s.data.toList && seen.contains 0) (isF s.data.toList && seen.contains 1)) 0 0 ⟨#[]⟩) ∧ Below w.heap.size w wr ∧
        h = .string (strL (hdL s.data.toList (isP s.data.toList && seen.contains 0) (isF s.data.toList && seen.contains 1))) ∧ o = .bool (okL s.data.toList (isP s.data.toList && seen.contains 0) (isF s.data.toList && seen.contains 1)))
      (fun _ _ wr => (leftOf esW (wr.iterSeen (w.heap.size + 2 + 1))).size)
    case atStart =>
      have hr := heap_alloc_new (w1.alloc (.map esW 2)) (.mapIter (some (w.heap.size + 2)) 2 #[] 2)
      have hm1 := heap_alloc_new w1 (.map esW 2)
      rw [World.size_alloc, hsz] at hr
      rw [hsz] at hm1
      refine ⟨#[], ?_, hr, ?_, ?_, ?_, ?_, ?_⟩
      · rw [heap_alloc_old _ _ (by rw [World.size_alloc, hsz]; omega)]
        exact hm1
      · rw [heap_alloc_old _ _ (by rw [World.size_alloc, hsz]; omega), heap_alloc_old _ _ (by rw [hsz]; omega)]
        exact b2
      · rw [heap_alloc_old _ _ (by rw [World.size_alloc, hsz]; omega), heap_alloc_old _ _ (by rw [hsz]; omega)]
        simpa [kdL] using b4
      · exact (hB1.alloc (by rw [hsz]; omega) _).alloc (by rw [World.size_alloc, hsz]; omega) _
      · simp [hdL]
      · simp [okL]
    case round =>
      obtain ⟨seen, q1, q2, q3, q4, qB, rfl, rfl⟩ := hrel
      clear hmk hi1 hi2 hrg b2 b4 hB1 hsz
      have hGr := GTgrow hG qB
      rcases next_law (P := Tryd.prog) wr 0 (w.heap.size + 2 + 1) (w.heap.size + 2) 2 2 seen esW 2 q2 q1 esW_old (Nat.le_refl _) with ⟨e0, hrun⟩ | ⟨e, he, w2, g1, g2, g3, g4, hrun⟩
      · have hnx : ∀ ty, (Instr.next (.pointer (some ⟨w.heap.size + 2 + 1, 0, none⟩)) false ty).run Tryd.prog wr = _ := fun _ => hrun
        have s0 : seen.contains 0 = true := all_seen esW seen e0 en1 (by simp [esW])
        have s1 : seen.contains 1 = true := all_seen esW seen e0 en2 (by simp [esW])
        simp only [s0, s1, Bool.and_true] at q4 ⊢
        have hl := hd_len s.data.toList (isP s.data.toList) (isF s.data.toList)
        have hl2 := cut_len s.data.toList
        generalize hK : kdL (isP s.data.toList) (isF s.data.toList) = K0 at *
        generalize hH : hdL s.data.toList (isP s.data.toList) (isF s.data.toList) = H0 at *
        generalize hO : okL s.data.toList (isP s.data.toList) (isF s.data.toList) = O0 at *
        generalize hC : (Lib.cut s.data.toList [58, 32]).2.1 = C0 at *
        have hsl : s.data.toList.length = s.size := by simp
        have hsH : (strL H0).size < 4294967281 := by rw [size_strL]; omega
        have hsD : (strL H0).data.toList = H0 := by simp [strL]
        clear q1 q2 e0 hrun
        go_wp2_with (go_at_call 31; refine (numParse_walk (strL H0) hsH wr hGr).mono ?_)
        rintro e w2 ⟨rfl, hB2⟩
        rw [hsD]
        have b2 : w2.heap[w.heap.size]? = some (actO 0 0 0 ⟨#[]⟩) := (hB2.block _ (Array.getElem?_eq_some_iff.1 q3).1).trans q3
        have b4 : w2.heap[w.heap.size + 1]? = some (actO K0 0 0 ⟨#[]⟩) := (hB2.block _ (Array.getElem?_eq_some_iff.1 q4).1).trans q4
        have hB : Below w.heap.size w w2 := qB.trans (hB2.mono qB.size)
        have hG2 := GTgrow hG hB
        clear hB2 hnx qB hGr q3 q4 hK hH hO
        have a4 := at4_of b4
        have a2 := at4_of b2
        obtain ⟨c0, c1, c2, c3⟩ := cells_of b4
        obtain ⟨d0, d1, d2, d3⟩ := cells_of b2
        have f4 := fun o => frozen_of (o := o) b4
        have f2 := fun o => frozen_of (o := o) b2
        generalize hNV : numV H0 = nv
        cases O0 with
        | false =>
          have hR' : R = (ac0, 2) := by rw [← hR]; unfold finA; rw [if_neg (fun h => by cases h.1)]
          subst hR'
          generalize numB H0 = nb
          go_wp2
          refine bodyPost_ret (ret_one (a2.s4 0 0 0 ⟨#[]⟩) rfl rfl) rfl ⟨rfl, ?_⟩
          exact (((hB.setCell (Nat.le_refl _) _).setCell (Nat.le_refl _) _).setCell (Nat.le_refl _) _).setCell (Nat.le_refl _) _
        | true =>
          cases hNB : numB H0 with
          | false =>
            have hR' : R = (ac0, 2) := by rw [← hR]; unfold finA; rw [if_neg (fun h => by rw [hNB] at h; cases h.2)]
            subst hR'
            go_wp2
            refine bodyPost_ret (ret_one (a2.s4 0 0 0 ⟨#[]⟩) rfl rfl) rfl ⟨rfl, ?_⟩
            exact (((hB.setCell (Nat.le_refl _) _).setCell (Nat.le_refl _) _).setCell (Nat.le_refl _) _).setCell (Nat.le_refl _) _
          | true =>
            have hR' : R = toldA (if K0 = 1 then ⟨1, nv, 0, C0⟩ else ⟨K0, 0, nv, []⟩) := by rw [← hR]; unfold finA; rw [if_pos ⟨rfl, hNB⟩, hNV]
            clear hR
            by_cases hk : K0 = 1
            · subst hk
              rw [if_pos rfl] at hR'
              unfold toldA at hR'
              have hB3 := (hB.setCell (p := ⟨w.heap.size + 1, 1, none⟩) (Nat.le_succ _) (.int .i64 nv)).setCell (p := ⟨w.heap.size + 1, 3, none⟩) (Nat.le_succ _) (.string (strL C0))
              go_wp2_with (go_at_call 14; refine (may_walk 1 nv 0 C0 (by omega) _ (GTgrow hG hB3)).mono ?_)
              rintro e w3 ⟨rfl, hB4⟩
              have A4 := ((a4.s1 nv).s3 (strL C0)).below hB4 (by simp [World.setCell]; have := (Array.getElem?_eq_some_iff.1 b4).1; omega)
              have B2 : w3.heap[w.heap.size]? = some (actO 0 0 0 ⟨#[]⟩) := by
                rw [hB4.block _ (by simp [World.setCell]; have := (Array.getElem?_eq_some_iff.1 b4).1; omega)]
                simp only [World.setCell, Array.getElem?_modify]
                simp only [show ¬ w.heap.size + 1 = w.heap.size by omega, if_false]
                exact b2
              have hB5 := hB3.trans (hB4.mono (by have := hB3.size; omega))
              clear c0 c1 c2 c3 d0 d1 d2 d3 f2 f4 a2 a4 b2 b4 hB3 hB4 hB hG2
              have A2 := at4_of B2
              obtain ⟨d0, d1, d2, d3⟩ := cells_of B2
              have f2 := fun o => frozen_of (o := o) B2
              obtain ⟨c0, c1, c2, c3⟩ := A4
              cases hmy : mayA ⟨1, nv, 0, C0⟩ with
              | false =>
                rw [if_neg (by rw [hmy]; decide)] at hR'
                subst hR'
                go_wp2
                refine bodyPost_ret (ret_one (A2.s4 0 0 0 ⟨#[]⟩) rfl rfl) rfl ⟨rfl, ?_⟩
                exact (((hB5.setCell (Nat.le_refl _) _).setCell (Nat.le_refl _) _).setCell (Nat.le_refl _) _).setCell (Nat.le_refl _) _
              | true =>
                rw [if_pos hmy] at hR'
                subst hR'
                go_wp2
                refine bodyPost_ret (ret_one (A2.s4 1 nv 0 (strL C0)) rfl rfl) rfl ⟨rfl, ?_⟩
                exact (((hB5.setCell (Nat.le_refl _) _).setCell (Nat.le_refl _) _).setCell (Nat.le_refl _) _).setCell (Nat.le_refl _) _
            · rw [if_neg hk] at hR'
              unfold toldA at hR'
              have hB3 := hB.setCell (p := ⟨w.heap.size + 1, 2, none⟩) (Nat.le_succ _) (.int .i64 nv)
              go_wp2_with (go_at_call 14; refine (may_walk K0 0 nv [] (by decide) _ (GTgrow hG hB3)).mono ?_)
              rintro e w3 ⟨rfl, hB4⟩
              have A4 := (a4.s2 nv).below hB4 (by simp [World.setCell]; have := (Array.getElem?_eq_some_iff.1 b4).1; omega)
              have B2 : w3.heap[w.heap.size]? = some (actO 0 0 0 ⟨#[]⟩) := by
                rw [hB4.block _ (by simp [World.setCell]; have := (Array.getElem?_eq_some_iff.1 b4).1; omega)]
                simp only [World.setCell, Array.getElem?_modify]
                simp only [show ¬ w.heap.size + 1 = w.heap.size by omega, if_false]
                exact b2
              have hB5 := hB3.trans (hB4.mono (by have := hB3.size; omega))
              clear c0 c1 c2 c3 d0 d1 d2 d3 f2 f4 a2 a4 b2 b4 hB3 hB4 hB hG2
              have A2 := at4_of B2
              obtain ⟨d0, d1, d2, d3⟩ := cells_of B2
              have f2 := fun o => frozen_of (o := o) B2
              obtain ⟨c0, c1, c2, c3⟩ := A4
              cases hmy : mayA ⟨K0, 0, nv, []⟩ with
              | false =>
                rw [if_neg (by rw [hmy]; decide)] at hR'
                subst hR'
                go_wp2
                refine bodyPost_ret (ret_one (A2.s4 0 0 0 ⟨#[]⟩) rfl rfl) rfl ⟨rfl, ?_⟩
                exact (((hB5.setCell (Nat.le_refl _) _).setCell (Nat.le_refl _) _).setCell (Nat.le_refl _) _).setCell (Nat.le_refl _) _
              | true =>
                rw [if_pos hmy] at hR'
                subst hR'
                go_wp2
                refine bodyPost_ret (ret_one (A2.s4 K0 0 nv ⟨#[]⟩) rfl rfl) rfl ⟨rfl, ?_⟩
                exact (((hB5.setCell (Nat.le_refl _) _).setCell (Nat.le_refl _) _).setCell (Nat.le_refl _) _).setCell (Nat.le_refl _) _
      · obtain ⟨p2, po, pB⟩ := stepped rfl rfl qB g1 g2 g3 g4 (by rw [q2]; rfl)
        have p1 := (po (w.heap.size + 2) (by omega)).trans q1
        have p3 := (po (w.heap.size) (by omega)).trans q3
        have p4 := (po (w.heap.size + 1) (by omega)).trans q4
        have hms := left_shrinks esW seen e he
        obtain ⟨he1, he2⟩ := mem_left he
        clear g1 g2 g3 g4 po qB he
        simp only [esW, List.mem_cons, List.not_mem_nil, or_false] at he1
        rcases he1 with rfl | rfl
        · have hnx : ∀ ty, (Instr.next (.pointer (some ⟨w.heap.size + 2 + 1, 0, none⟩)) false ty).run Tryd.prog wr = .ok (.tuple #[.bool true, .string ⟨#[112, 111, 119, 101, 114, 32]⟩, .int .i64 2]) w2 := fun _ => hrun
          have hen : (Instr.entry (.pointer (some ⟨w.heap.size + 2 + 1, 0, none⟩))).run Tryd.prog w2 = .ok (.tuple #[.string ⟨#[112, 111, 119, 101, 114, 32]⟩, .int .i64 2]) w2 := entry_law w2 _ (w.heap.size + 2) 2 seen esW 2 en1 p2 p1 (by simp [esW]) esW_nd
          have e0 : seen.contains 0 = false := he2
          have e1 : (isP s.data.toList && seen.contains 0) = false := by rw [e0, Bool.and_false]
          have n0 : (seen.push 0).contains 0 = true := by rw [contains_push]; simp
          have n1 : (seen.push 0).contains 1 = seen.contains 1 := by rw [contains_push]; simp
          have i1 := iter_of q2
          have i2 := iter_of p2
          simp only [e1] at p4 ⊢
          clear hrun he2 q1 q2 q3 q4
          cases hp : Lib.hasPrefix s.data.toList [112, 111, 119, 101, 114, 32] with
          | false =>
            have hPF : isP s.data.toList = false := hp
            generalize hfb : (isF s.data.toList && seen.contains 1) = fb at p4 ⊢
            go_wp2_with (go_at_call 30; refine (Tryd.strings_CutPrefix s ⟨#[112, 111, 119, 101, 114, 32]⟩ w2).mono ?_)
            refine ⟨⟨seen.push 0, p1, p2, p3, ?_, pB, ?_, ?_⟩, ?_⟩
            · rw [n0, n1, hPF, hfb, Bool.false_and]; exact p4
            · rw [n0, n1, hPF, hfb, Bool.false_and]
            · rw [n0, n1, hPF, hfb, Bool.false_and]
            · rw [i1, i2]; exact hms
          | true =>
            have hPF : isP s.data.toList = true := hp
            have hF : isF s.data.toList = false := not_both _ hPF
            obtain ⟨c0, c1, c2, c3⟩ := cells_of p4
            have f4 := fun o => frozen_of (o := o) p4
            have ht : Lib.trimPrefix s.data.toList [112, 111, 119, 101, 114, 32] = s.data.toList.drop 6 := by unfold Lib.trimPrefix; rw [if_pos hp]; rfl
            simp only [hF, Bool.false_and] at p4 ⊢
            go_wp2_with (go_at_call 30; refine (Tryd.strings_CutPrefix s ⟨#[112, 111, 119, 101, 114, 32]⟩ w2).mono ?_)
            refine ⟨⟨seen.push 0, (setCell_out _ _ (by omega)).trans p1, (setCell_out _ _ (by omega)).trans p2, (setCell_out _ _ (by omega)).trans p3, ?_, pB.setCell (Nat.le_succ _) _, ?_, ?_⟩, ?_⟩
            · rw [n0, hPF]; exact act_set0 p4 2
            · rw [n0, hPF]; rfl
            · rw [n0, hPF]; rfl
            · rw [i1, iter_of ((setCell_out _ _ (by omega)).trans p2)]; exact hms
        · have hnx : ∀ ty, (Instr.next (.pointer (some ⟨w.heap.size + 2 + 1, 0, none⟩)) false ty).run Tryd.prog wr = .ok (.tuple #[.bool true, .string ⟨#[102, 108, 117, 115, 104, 32]⟩, .int .i64 4]) w2 := fun _ => hrun
          have hen : (Instr.entry (.pointer (some ⟨w.heap.size + 2 + 1, 0, none⟩))).run Tryd.prog w2 = .ok (.tuple #[.string ⟨#[102, 108, 117, 115, 104, 32]⟩, .int .i64 4]) w2 := entry_law w2 _ (w.heap.size + 2) 2 seen esW 2 en2 p2 p1 (by simp [esW]) esW_nd
          have e0 : seen.contains 1 = false := he2
          have e1 : (isF s.data.toList && seen.contains 1) = false := by rw [e0, Bool.and_false]
          have n0 : (seen.push 1).contains 1 = true := by rw [contains_push]; simp
          have n1 : (seen.push 1).contains 0 = seen.contains 0 := by rw [contains_push]; simp
          have i1 := iter_of q2
          have i2 := iter_of p2
          simp only [e1] at p4 ⊢
          clear hrun he2 q1 q2 q3 q4
          cases hp : Lib.hasPrefix s.data.toList [102, 108, 117, 115, 104, 32] with
          | false =>
            have hPF : isF s.data.toList = false := hp
            generalize hfb : (isP s.data.toList && seen.contains 0) = fb at p4 ⊢
            go_wp2_with (go_at_call 30; refine (Tryd.strings_CutPrefix s ⟨#[102, 108, 117, 115, 104, 32]⟩ w2).mono ?_)
            refine ⟨⟨seen.push 1, p1, p2, p3, ?_, pB, ?_, ?_⟩, ?_⟩
            · rw [n0, n1, hPF, hfb, Bool.false_and]; exact p4
            · rw [n0, n1, hPF, hfb, Bool.false_and]
            · rw [n0, n1, hPF, hfb, Bool.false_and]
            · rw [i1, i2]; exact hms
          | true =>
            have hPF : isF s.data.toList = true := hp
            have hF : isP s.data.toList = false := by cases h : isP s.data.toList with | false => rfl | true => have := not_both _ h; rw [hPF] at this; cases this
            obtain ⟨c0, c1, c2, c3⟩ := cells_of p4
            have f4 := fun o => frozen_of (o := o) p4
            have ht : Lib.trimPrefix s.data.toList [102, 108, 117, 115, 104, 32] = s.data.toList.drop 6 := by unfold Lib.trimPrefix; rw [if_pos hp]; rfl
            simp only [hF, Bool.false_and] at p4 ⊢
            go_wp2_with (go_at_call 30; refine (Tryd.strings_CutPrefix s ⟨#[102, 108, 117, 115, 104, 32]⟩ w2).mono ?_)
            refine ⟨⟨seen.push 1, (setCell_out _ _ (by omega)).trans p1, (setCell_out _ _ (by omega)).trans p2, (setCell_out _ _ (by omega)).trans p3, ?_, pB.setCell (Nat.le_succ _) _, ?_, ?_⟩, ?_⟩
            · rw [n0, hPF]; exact act_set0 p4 4
            · rw [n0, hPF]; rfl
            · rw [n0, hPF]; rfl
            · rw [i1, iter_of ((setCell_out _ _ (by omega)).trans p2)]; exact hms
end Go.Proofs.YtcmgabicladmlaaDoor
namespace Go.Proofs.YtcmgabicladmlaaDoor
open Go Go.Pe Go.Tab Go.RowKit

theorem strL_data (s : ByteArray) : strL s.data.toList = s := by simp [strL]
theorem may_sound (xs : List X) (obs : List Ob) (an : An) (h : mayP xs obs = some an) : Sound Tryd.prog GT 14 xs obs an := by
  unfold mayP at h
  split at h
  · rename_i k w n s
    split at h
    · rename_i hc
      simp only [Option.some.injEq] at h
      subst h
      have g := may_call k w n s.data.toList (by simpa using hc)
      rw [strL_data] at g
      exact Gives.sound mixed pr0_sound g
    · cases h
  · cases h
theorem one_sound (xs : List X) (obs : List Ob) (an : An) (h : oneP xs obs = some an) : Sound Tryd.prog GT 19 xs obs an := by
  unfold oneP at h
  split at h
  · rename_i s
    split at h
    · rename_i hc
      simp only [Option.some.injEq] at h
      subst h
      intro fn hf k ow w vs hp hold hcl hvs
      simp only [RepXs, RepX, Rep] at hvs
      obtain ⟨v, r, rfl, ⟨rfl, _⟩, rfl⟩ := hvs
      refine (one_walk s hc w hp.table).mono ?_
      rintro e w' ⟨rfl, hB⟩
      refine ⟨k, ow, [_, _], rfl, hp.grow hB, Mem.le_refl _, Nat.le_refl _, fun _ _ => rfl, hold, hcl, ?_⟩
      simp only [RepXs, RepX, Rep, RepL, acC]
      refine ⟨_, _, rfl, ⟨[.int .i64 (oneA s.data.toList).1.k, .int .i64 (oneA s.data.toList).1.w, .int .i64 (oneA s.data.toList).1.n, .string (strL (oneA s.data.toList).1.t)], rfl, (by intro u hu; simp only [List.mem_cons, List.not_mem_nil, or_false] at hu; rcases hu with rfl | rfl | rfl | rfl <;> rfl), _, _, rfl, ⟨rfl, rfl⟩, _, _, rfl, ⟨rfl, rfl⟩, _, _, rfl, ⟨rfl, rfl⟩, _, _, rfl, ⟨rfl, rfl⟩, rfl⟩, _, _, rfl, ⟨rfl, rfl⟩, rfl⟩
    · cases h
  · cases h
theorem pr_sound : PrSound Tryd.prog GT pr where
  prim f xs obs an h := by
    replace h : prims f xs obs = some an := h
    unfold prims at h
    split at h
    · rename_i e; subst e; exact may_sound xs obs an h
    split at h
    · rename_i e; subst e; exact one_sound xs obs an h
    · exact pr0_sound.prim f xs obs an h
end Go.Proofs.YtcmgabicladmlaaDoor
namespace Go.Proofs.YtcmgabicladmlaaDoor
open Go Go.Pe Go.Tab
set_option linter.unusedSectionVars false

theorem may_k (k w n : Int) (t : List UInt8) (K : An → Prop) (h : t.length < 4294967281) : CallK Tryd.prog pr 14 [.of (.agg [ci k, ci w, ci n, cstr (strL t)])] [] K ↔ K ⟨false, [xbool (mayA ⟨k, w, n, t⟩)], []⟩ := by
  refine Gives.k (Gives.of_prim (show mayP [.of (.agg [ci k, ci w, ci n, cstr (strL t)])] [] = _ from ?_)) K
  have hs : (strL t).data.toList = t := by simp [strL]
  simp only [mayP, size_strL, hs]
  rw [if_pos h]
theorem one_k (t : List UInt8) (K : An → Prop) (h : t.length < 4294967281) : CallK Tryd.prog pr 19 [.of (.lit (.string (strL t)))] [] K ↔ K ⟨false, [.of (.agg (acC (oneA t).1)), xint (oneA t).2], []⟩ := by
  refine Gives.k (Gives.of_prim (show oneP [.of (.lit (.string (strL t)))] [] = _ from ?_)) K
  have hs : (strL t).data.toList = t := by simp [strL]
  simp only [oneP, size_strL, hs]
  rw [if_pos h]
theorem cutlf_k (t : List UInt8) (K : An → Prop) (h : t.length < 4294967281) : CallK Tryd.prog pr 18 [.of (.lit (.string (strL t))), .of (.lit (.string (strL [10])))] [] K ↔ K ⟨false, [xstr (strL (Lib.cut t [10]).1), xstr (strL (Lib.cut t [10]).2.1), xbool (Lib.cut t [10]).2.2], []⟩ := by
  refine Gives.k (Gives.of_prim (show cutP [.of (cstr (strL t)), .of (cstr (strL [10]))] [] = _ from ?_)) K
  have hs : (strL t).data.toList = t := by simp [strL]
  have hs2 : (strL [10]).data.toList = [10] := rfl
  simp only [cutP, size_strL, hs, hs2]
  rw [if_pos h]
  rfl
theorem small_of {n : Int} (h : I64 n) : small64 n = true := by
  simp only [small64, decide_eq_true_eq]
  exact h
theorem itoa_short (n : Int) (h1 : -9223372036854775808 ≤ n) (h2 : n ≤ 9223372036854775807) : (Lib.itoa n).length ≤ 20 := by
  have := itoa_len n h1 h2
  omega
section
variable (k w n : Int) (t : List UInt8) (hw : I64 w) (hn : I64 n) (hl : t.length ≤ 1048576)
include hw hn hl
set_option maxRecDepth 100000 in
theorem scline_call : G1 15 [.of (.agg [ci k, ci w, ci n, cstr (strL t)])] (xstr (strL (lineA ⟨k, w, n, t⟩))) := by
  have l1 := itoa_short w hw.1 hw.2
  have l2 := itoa_short n hn.1 hn.2
  refine by_body rfl ok15 body15 ar15 rfl ?_
  by_cases h1 : k = 1
  · have e : lineA ⟨k, w, n, t⟩ = Lib.itoa w ++ [58, 32] ++ t := by unfold lineA; rw [if_pos h1]
    rw [e]
    simp -implicitDefEqProofs (maxSteps := 1000000) only [Tryd.f15, ↓zD, zU, Nat.zero_mul, Nat.reduceMul, List.length_map, Tk.nm.injEq, Tk.cell.injEq, false_and, and_false, Nat.le_add_right, Nat.le_refl, ↓reduceIte, Bool.or_false, Bool.false_or, Bool.and_true, Bool.true_and, Bool.false_and, Bool.true_or, Bool.or_true, Option.isNone_none, Option.isNone_some, List.any_cons, List.any_nil, Bool.and_false, Nat.reduceBEq, Nat.reduceLeDiff, Int.reduceLT, Int.reduceEq, Int.reduceLE, Int.reduceAdd, Int.reduceToNat, Int.reduceNeg, Int.cast_ofNat_Int, Nat.reduceLT, List.drop_succ_cons, List.take_succ_cons, List.singleton_append, Nat.zero_add, List.set_cons_zero, List.set_cons_succ, List.drop_nil, List.take_nil, Option.map_some, Option.map_none, Option.getD_some, Option.getD_none, Option.bind_some, List.cons_append, List.nil_append, List.append_nil, List.map_cons, List.map_nil, List.range_zero, List.take_zero, List.flatten_nil, List.filter_nil, List.length_nil, List.length_cons, List.drop_zero, List.not_mem_nil, List.mem_cons, Bool.true_eq_false, Bool.false_eq_true, Nat.reduceEqDiff, Nat.reduceAdd, List.getElem?_toArray, List.toList_toArray, List.getElem?_cons_zero, List.getElem?_cons_succ, decide_eq_true_eq, beq_self_eq_true, beq_true, beq_false, decide_true, decide_false, Bool.not_true, Bool.not_false, true_and, and_true, or_false, false_or, Bool.and_eq_true, reduceCtorEq, not_false_eq_true, cat_u, lit_strL, List.append_assoc, rv15, boxO, cells_act, zeroX_at, build_st, T40, P40, T3, T9, U3, U9, fa40_0, fa40_1, fa40_2, fa40_3, P3, P9, act_eq, h1, numText_k _ _ (small_of hw), pr_obj, obj22, call22] <;> ((try simp only [List.length_append, List.length_cons, List.length_nil, SLIM]); omega)
  · by_cases h2 : k = 2
    · have e : lineA ⟨k, w, n, t⟩ = [112, 111, 119, 101, 114, 32] ++ Lib.itoa n := by unfold lineA; rw [if_neg h1, if_pos h2]
      rw [e]
      simp -implicitDefEqProofs (maxSteps := 1000000) only [Tryd.f15, ↓zD, zU, Nat.zero_mul, Nat.reduceMul, List.length_map, Tk.nm.injEq, Tk.cell.injEq, false_and, and_false, Nat.le_add_right, Nat.le_refl, ↓reduceIte, Bool.or_false, Bool.false_or, Bool.and_true, Bool.true_and, Bool.false_and, Bool.true_or, Bool.or_true, Option.isNone_none, Option.isNone_some, List.any_cons, List.any_nil, Bool.and_false, Nat.reduceBEq, Nat.reduceLeDiff, Int.reduceLT, Int.reduceEq, Int.reduceLE, Int.reduceAdd, Int.reduceToNat, Int.reduceNeg, Int.cast_ofNat_Int, Nat.reduceLT, List.drop_succ_cons, List.take_succ_cons, List.singleton_append, Nat.zero_add, List.set_cons_zero, List.set_cons_succ, List.drop_nil, List.take_nil, Option.map_some, Option.map_none, Option.getD_some, Option.getD_none, Option.bind_some, List.cons_append, List.nil_append, List.append_nil, List.map_cons, List.map_nil, List.range_zero, List.take_zero, List.flatten_nil, List.filter_nil, List.length_nil, List.length_cons, List.drop_zero, List.not_mem_nil, List.mem_cons, Bool.true_eq_false, Bool.false_eq_true, Nat.reduceEqDiff, Nat.reduceAdd, List.getElem?_toArray, List.toList_toArray, List.getElem?_cons_zero, List.getElem?_cons_succ, decide_eq_true_eq, beq_self_eq_true, beq_true, beq_false, decide_true, decide_false, Bool.not_true, Bool.not_false, true_and, and_true, or_false, false_or, Bool.and_eq_true, reduceCtorEq, not_false_eq_true, cat_u, lit_strL, List.append_assoc, rv15, boxO, cells_act, zeroX_at, build_st, T40, P40, T3, T9, U3, U9, fa40_0, fa40_1, fa40_2, fa40_3, P3, P9, act_eq, h1, h2, numText_k _ _ (small_of hn), pr_obj, obj22, call22] <;> ((try simp only [List.length_append, List.length_cons, List.length_nil, SLIM]); omega)
    · by_cases h4 : k = 4
      · have e : lineA ⟨k, w, n, t⟩ = [102, 108, 117, 115, 104, 32] ++ Lib.itoa n := by unfold lineA; rw [if_neg h1, if_neg h2, if_pos h4]
        rw [e]
        simp -implicitDefEqProofs (maxSteps := 1000000) only [Tryd.f15, ↓zD, zU, Nat.zero_mul, Nat.reduceMul, List.length_map, Tk.nm.injEq, Tk.cell.injEq, false_and, and_false, Nat.le_add_right, Nat.le_refl, ↓reduceIte, Bool.or_false, Bool.false_or, Bool.and_true, Bool.true_and, Bool.false_and, Bool.true_or, Bool.or_true, Option.isNone_none, Option.isNone_some, List.any_cons, List.any_nil, Bool.and_false, Nat.reduceBEq, Nat.reduceLeDiff, Int.reduceLT, Int.reduceEq, Int.reduceLE, Int.reduceAdd, Int.reduceToNat, Int.reduceNeg, Int.cast_ofNat_Int, Nat.reduceLT, List.drop_succ_cons, List.take_succ_cons, List.singleton_append, Nat.zero_add, List.set_cons_zero, List.set_cons_succ, List.drop_nil, List.take_nil, Option.map_some, Option.map_none, Option.getD_some, Option.getD_none, Option.bind_some, List.cons_append, List.nil_append, List.append_nil, List.map_cons, List.map_nil, List.range_zero, List.take_zero, List.flatten_nil, List.filter_nil, List.length_nil, List.length_cons, List.drop_zero, List.not_mem_nil, List.mem_cons, Bool.true_eq_false, Bool.false_eq_true, Nat.reduceEqDiff, Nat.reduceAdd, List.getElem?_toArray, List.toList_toArray, List.getElem?_cons_zero, List.getElem?_cons_succ, decide_eq_true_eq, beq_self_eq_true, beq_true, beq_false, decide_true, decide_false, Bool.not_true, Bool.not_false, true_and, and_true, or_false, false_or, Bool.and_eq_true, reduceCtorEq, not_false_eq_true, cat_u, lit_strL, List.append_assoc, rv15, boxO, cells_act, zeroX_at, build_st, T40, P40, T3, T9, U3, U9, fa40_0, fa40_1, fa40_2, fa40_3, P3, P9, act_eq, h1, h2, h4, numText_k _ _ (small_of hn), pr_obj, obj22, call22] <;> ((try simp only [List.length_append, List.length_cons, List.length_nil, SLIM]); omega)
      · by_cases h3 : k = 3
        · have e : lineA ⟨k, w, n, t⟩ = [111, 112, 101, 110] := by unfold lineA; rw [if_neg h1, if_neg h2, if_neg h4, if_pos h3]
          rw [e]
          simp -implicitDefEqProofs (maxSteps := 1000000) only [Tryd.f15, ↓zD, zU, Nat.zero_mul, Nat.reduceMul, List.length_map, Tk.nm.injEq, Tk.cell.injEq, false_and, and_false, Nat.le_add_right, Nat.le_refl, ↓reduceIte, Bool.or_false, Bool.false_or, Bool.and_true, Bool.true_and, Bool.false_and, Bool.true_or, Bool.or_true, Option.isNone_none, Option.isNone_some, List.any_cons, List.any_nil, Bool.and_false, Nat.reduceBEq, Nat.reduceLeDiff, Int.reduceLT, Int.reduceEq, Int.reduceLE, Int.reduceAdd, Int.reduceToNat, Int.reduceNeg, Int.cast_ofNat_Int, Nat.reduceLT, List.drop_succ_cons, List.take_succ_cons, List.singleton_append, Nat.zero_add, List.set_cons_zero, List.set_cons_succ, List.drop_nil, List.take_nil, Option.map_some, Option.map_none, Option.getD_some, Option.getD_none, Option.bind_some, List.cons_append, List.nil_append, List.append_nil, List.map_cons, List.map_nil, List.range_zero, List.take_zero, List.flatten_nil, List.filter_nil, List.length_nil, List.length_cons, List.drop_zero, List.not_mem_nil, List.mem_cons, Bool.true_eq_false, Bool.false_eq_true, Nat.reduceEqDiff, Nat.reduceAdd, List.getElem?_toArray, List.toList_toArray, List.getElem?_cons_zero, List.getElem?_cons_succ, decide_eq_true_eq, beq_self_eq_true, beq_true, beq_false, decide_true, decide_false, Bool.not_true, Bool.not_false, true_and, and_true, or_false, false_or, Bool.and_eq_true, reduceCtorEq, not_false_eq_true, cat_u, lit_strL, List.append_assoc, rv15, boxO, cells_act, zeroX_at, build_st, T40, P40, T3, T9, U3, U9, fa40_0, fa40_1, fa40_2, fa40_3, P3, P9, act_eq, h1, h2, h4, h3, pr_obj]
        · have e : lineA ⟨k, w, n, t⟩ = [99, 104, 101, 99, 107, 112, 111, 105, 110, 116] := by unfold lineA; rw [if_neg h1, if_neg h2, if_neg h4, if_neg h3]
          rw [e]
          simp -implicitDefEqProofs (maxSteps := 1000000) only [Tryd.f15, ↓zD, zU, Nat.zero_mul, Nat.reduceMul, List.length_map, Tk.nm.injEq, Tk.cell.injEq, false_and, and_false, Nat.le_add_right, Nat.le_refl, ↓reduceIte, Bool.or_false, Bool.false_or, Bool.and_true, Bool.true_and, Bool.false_and, Bool.true_or, Bool.or_true, Option.isNone_none, Option.isNone_some, List.any_cons, List.any_nil, Bool.and_false, Nat.reduceBEq, Nat.reduceLeDiff, Int.reduceLT, Int.reduceEq, Int.reduceLE, Int.reduceAdd, Int.reduceToNat, Int.reduceNeg, Int.cast_ofNat_Int, Nat.reduceLT, List.drop_succ_cons, List.take_succ_cons, List.singleton_append, Nat.zero_add, List.set_cons_zero, List.set_cons_succ, List.drop_nil, List.take_nil, Option.map_some, Option.map_none, Option.getD_some, Option.getD_none, Option.bind_some, List.cons_append, List.nil_append, List.append_nil, List.map_cons, List.map_nil, List.range_zero, List.take_zero, List.flatten_nil, List.filter_nil, List.length_nil, List.length_cons, List.drop_zero, List.not_mem_nil, List.mem_cons, Bool.true_eq_false, Bool.false_eq_true, Nat.reduceEqDiff, Nat.reduceAdd, List.getElem?_toArray, List.toList_toArray, List.getElem?_cons_zero, List.getElem?_cons_succ, decide_eq_true_eq, beq_self_eq_true, beq_true, beq_false, decide_true, decide_false, Bool.not_true, Bool.not_false, true_and, and_true, or_false, false_or, Bool.and_eq_true, reduceCtorEq, not_false_eq_true, cat_u, lit_strL, List.append_assoc, rv15, boxO, cells_act, zeroX_at, build_st, T40, P40, T3, T9, U3, U9, fa40_0, fa40_1, fa40_2, fa40_3, P3, P9, act_eq, h1, h2, h4, h3, pr_obj]
set_option maxRecDepth 100000 in
theorem rline_call : G1 17 [.of (.agg [ci k, ci w, ci n, cstr (strL t)])] (xstr (strL (lineA ⟨k, w, n, t⟩))) := by
  have l1 := itoa_short w hw.1 hw.2
  have l2 := itoa_short n hn.1 hn.2
  refine by_body rfl ok17 body17 ar17 rfl ?_
  by_cases h1 : k = 1
  · have e : lineA ⟨k, w, n, t⟩ = Lib.itoa w ++ [58, 32] ++ t := by unfold lineA; rw [if_pos h1]
    rw [e]
    simp -implicitDefEqProofs (maxSteps := 1000000) only [Tryd.f17, ↓zD, zU, Nat.zero_mul, Nat.reduceMul, List.length_map, Tk.nm.injEq, Tk.cell.injEq, false_and, and_false, Nat.le_add_right, Nat.le_refl, ↓reduceIte, Bool.or_false, Bool.false_or, Bool.and_true, Bool.true_and, Bool.false_and, Bool.true_or, Bool.or_true, Option.isNone_none, Option.isNone_some, List.any_cons, List.any_nil, Bool.and_false, Nat.reduceBEq, Nat.reduceLeDiff, Int.reduceLT, Int.reduceEq, Int.reduceLE, Int.reduceAdd, Int.reduceToNat, Int.reduceNeg, Int.cast_ofNat_Int, Nat.reduceLT, List.drop_succ_cons, List.take_succ_cons, List.singleton_append, Nat.zero_add, List.set_cons_zero, List.set_cons_succ, List.drop_nil, List.take_nil, Option.map_some, Option.map_none, Option.getD_some, Option.getD_none, Option.bind_some, List.cons_append, List.nil_append, List.append_nil, List.map_cons, List.map_nil, List.range_zero, List.take_zero, List.flatten_nil, List.filter_nil, List.length_nil, List.length_cons, List.drop_zero, List.not_mem_nil, List.mem_cons, Bool.true_eq_false, Bool.false_eq_true, Nat.reduceEqDiff, Nat.reduceAdd, List.getElem?_toArray, List.toList_toArray, List.getElem?_cons_zero, List.getElem?_cons_succ, decide_eq_true_eq, beq_self_eq_true, beq_true, beq_false, decide_true, decide_false, Bool.not_true, Bool.not_false, true_and, and_true, or_false, false_or, Bool.and_eq_true, reduceCtorEq, not_false_eq_true, cat_u, lit_strL, List.append_assoc, rv17, boxO, cells_act, zeroX_at, build_st, T40, P40, T3, T9, U3, U9, fa40_0, fa40_1, fa40_2, fa40_3, P3, P9, act_eq, h1, r2Text_k _ _ (small_of hw), pr_obj, obj25, call25] <;> ((try simp only [List.length_append, List.length_cons, List.length_nil, SLIM]); omega)
  · by_cases h2 : k = 2
    · have e : lineA ⟨k, w, n, t⟩ = [112, 111, 119, 101, 114, 32] ++ Lib.itoa n := by unfold lineA; rw [if_neg h1, if_pos h2]
      rw [e]
      simp -implicitDefEqProofs (maxSteps := 1000000) only [Tryd.f17, ↓zD, zU, Nat.zero_mul, Nat.reduceMul, List.length_map, Tk.nm.injEq, Tk.cell.injEq, false_and, and_false, Nat.le_add_right, Nat.le_refl, ↓reduceIte, Bool.or_false, Bool.false_or, Bool.and_true, Bool.true_and, Bool.false_and, Bool.true_or, Bool.or_true, Option.isNone_none, Option.isNone_some, List.any_cons, List.any_nil, Bool.and_false, Nat.reduceBEq, Nat.reduceLeDiff, Int.reduceLT, Int.reduceEq, Int.reduceLE, Int.reduceAdd, Int.reduceToNat, Int.reduceNeg, Int.cast_ofNat_Int, Nat.reduceLT, List.drop_succ_cons, List.take_succ_cons, List.singleton_append, Nat.zero_add, List.set_cons_zero, List.set_cons_succ, List.drop_nil, List.take_nil, Option.map_some, Option.map_none, Option.getD_some, Option.getD_none, Option.bind_some, List.cons_append, List.nil_append, List.append_nil, List.map_cons, List.map_nil, List.range_zero, List.take_zero, List.flatten_nil, List.filter_nil, List.length_nil, List.length_cons, List.drop_zero, List.not_mem_nil, List.mem_cons, Bool.true_eq_false, Bool.false_eq_true, Nat.reduceEqDiff, Nat.reduceAdd, List.getElem?_toArray, List.toList_toArray, List.getElem?_cons_zero, List.getElem?_cons_succ, decide_eq_true_eq, beq_self_eq_true, beq_true, beq_false, decide_true, decide_false, Bool.not_true, Bool.not_false, true_and, and_true, or_false, false_or, Bool.and_eq_true, reduceCtorEq, not_false_eq_true, cat_u, lit_strL, List.append_assoc, rv17, boxO, cells_act, zeroX_at, build_st, T40, P40, T3, T9, U3, U9, fa40_0, fa40_1, fa40_2, fa40_3, P3, P9, act_eq, h1, h2, r2Text_k _ _ (small_of hn), pr_obj, obj25, call25] <;> ((try simp only [List.length_append, List.length_cons, List.length_nil, SLIM]); omega)
    · by_cases h3 : k = 3
      · have e : lineA ⟨k, w, n, t⟩ = [111, 112, 101, 110] := by unfold lineA; rw [if_neg h1, if_neg h2, if_neg (by show ¬ k = 4; omega), if_pos h3]
        rw [e]
        simp -implicitDefEqProofs (maxSteps := 1000000) only [Tryd.f17, ↓zD, zU, Nat.zero_mul, Nat.reduceMul, List.length_map, Tk.nm.injEq, Tk.cell.injEq, false_and, and_false, Nat.le_add_right, Nat.le_refl, ↓reduceIte, Bool.or_false, Bool.false_or, Bool.and_true, Bool.true_and, Bool.false_and, Bool.true_or, Bool.or_true, Option.isNone_none, Option.isNone_some, List.any_cons, List.any_nil, Bool.and_false, Nat.reduceBEq, Nat.reduceLeDiff, Int.reduceLT, Int.reduceEq, Int.reduceLE, Int.reduceAdd, Int.reduceToNat, Int.reduceNeg, Int.cast_ofNat_Int, Nat.reduceLT, List.drop_succ_cons, List.take_succ_cons, List.singleton_append, Nat.zero_add, List.set_cons_zero, List.set_cons_succ, List.drop_nil, List.take_nil, Option.map_some, Option.map_none, Option.getD_some, Option.getD_none, Option.bind_some, List.cons_append, List.nil_append, List.append_nil, List.map_cons, List.map_nil, List.range_zero, List.take_zero, List.flatten_nil, List.filter_nil, List.length_nil, List.length_cons, List.drop_zero, List.not_mem_nil, List.mem_cons, Bool.true_eq_false, Bool.false_eq_true, Nat.reduceEqDiff, Nat.reduceAdd, List.getElem?_toArray, List.toList_toArray, List.getElem?_cons_zero, List.getElem?_cons_succ, decide_eq_true_eq, beq_self_eq_true, beq_true, beq_false, decide_true, decide_false, Bool.not_true, Bool.not_false, true_and, and_true, or_false, false_or, Bool.and_eq_true, reduceCtorEq, not_false_eq_true, cat_u, lit_strL, List.append_assoc, rv17, boxO, cells_act, zeroX_at, build_st, T40, P40, T3, T9, U3, U9, fa40_0, fa40_1, fa40_2, fa40_3, P3, P9, act_eq, h1, h2, h3, pr_obj]
      · by_cases h4 : k = 4
        · have e : lineA ⟨k, w, n, t⟩ = [102, 108, 117, 115, 104, 32] ++ Lib.itoa n := by unfold lineA; rw [if_neg h1, if_neg h2, if_pos h4]
          rw [e]
          simp -implicitDefEqProofs (maxSteps := 1000000) only [Tryd.f17, ↓zD, zU, Nat.zero_mul, Nat.reduceMul, List.length_map, Tk.nm.injEq, Tk.cell.injEq, false_and, and_false, Nat.le_add_right, Nat.le_refl, ↓reduceIte, Bool.or_false, Bool.false_or, Bool.and_true, Bool.true_and, Bool.false_and, Bool.true_or, Bool.or_true, Option.isNone_none, Option.isNone_some, List.any_cons, List.any_nil, Bool.and_false, Nat.reduceBEq, Nat.reduceLeDiff, Int.reduceLT, Int.reduceEq, Int.reduceLE, Int.reduceAdd, Int.reduceToNat, Int.reduceNeg, Int.cast_ofNat_Int, Nat.reduceLT, List.drop_succ_cons, List.take_succ_cons, List.singleton_append, Nat.zero_add, List.set_cons_zero, List.set_cons_succ, List.drop_nil, List.take_nil, Option.map_some, Option.map_none, Option.getD_some, Option.getD_none, Option.bind_some, List.cons_append, List.nil_append, List.append_nil, List.map_cons, List.map_nil, List.range_zero, List.take_zero, List.flatten_nil, List.filter_nil, List.length_nil, List.length_cons, List.drop_zero, List.not_mem_nil, List.mem_cons, Bool.true_eq_false, Bool.false_eq_true, Nat.reduceEqDiff, Nat.reduceAdd, List.getElem?_toArray, List.toList_toArray, List.getElem?_cons_zero, List.getElem?_cons_succ, decide_eq_true_eq, beq_self_eq_true, beq_true, beq_false, decide_true, decide_false, Bool.not_true, Bool.not_false, true_and, and_true, or_false, false_or, Bool.and_eq_true, reduceCtorEq, not_false_eq_true, cat_u, lit_strL, List.append_assoc, rv17, boxO, cells_act, zeroX_at, build_st, T40, P40, T3, T9, U3, U9, fa40_0, fa40_1, fa40_2, fa40_3, P3, P9, act_eq, h1, h2, h3, h4, r2Text_k _ _ (small_of hn), pr_obj, obj25, call25] <;> ((try simp only [List.length_append, List.length_cons, List.length_nil, SLIM]); omega)
        · have e : lineA ⟨k, w, n, t⟩ = [99, 104, 101, 99, 107, 112, 111, 105, 110, 116] := by unfold lineA; rw [if_neg h1, if_neg h2, if_neg h4, if_neg h3]
          rw [e]
          simp -implicitDefEqProofs (maxSteps := 1000000) only [Tryd.f17, ↓zD, zU, Nat.zero_mul, Nat.reduceMul, List.length_map, Tk.nm.injEq, Tk.cell.injEq, false_and, and_false, Nat.le_add_right, Nat.le_refl, ↓reduceIte, Bool.or_false, Bool.false_or, Bool.and_true, Bool.true_and, Bool.false_and, Bool.true_or, Bool.or_true, Option.isNone_none, Option.isNone_some, List.any_cons, List.any_nil, Bool.and_false, Nat.reduceBEq, Nat.reduceLeDiff, Int.reduceLT, Int.reduceEq, Int.reduceLE, Int.reduceAdd, Int.reduceToNat, Int.reduceNeg, Int.cast_ofNat_Int, Nat.reduceLT, List.drop_succ_cons, List.take_succ_cons, List.singleton_append, Nat.zero_add, List.set_cons_zero, List.set_cons_succ, List.drop_nil, List.take_nil, Option.map_some, Option.map_none, Option.getD_some, Option.getD_none, Option.bind_some, List.cons_append, List.nil_append, List.append_nil, List.map_cons, List.map_nil, List.range_zero, List.take_zero, List.flatten_nil, List.filter_nil, List.length_nil, List.length_cons, List.drop_zero, List.not_mem_nil, List.mem_cons, Bool.true_eq_false, Bool.false_eq_true, Nat.reduceEqDiff, Nat.reduceAdd, List.getElem?_toArray, List.toList_toArray, List.getElem?_cons_zero, List.getElem?_cons_succ, decide_eq_true_eq, beq_self_eq_true, beq_true, beq_false, decide_true, decide_false, Bool.not_true, Bool.not_false, true_and, and_true, or_false, false_or, Bool.and_eq_true, reduceCtorEq, not_false_eq_true, cat_u, lit_strL, List.append_assoc, rv17, boxO, cells_act, zeroX_at, build_st, T40, P40, T3, T9, U3, U9, fa40_0, fa40_1, fa40_2, fa40_3, P3, P9, act_eq, h1, h2, h4, h3, pr_obj]
theorem scline_k (K : An → Prop) : CallK Tryd.prog pr 15 [.of (.agg [ci k, ci w, ci n, cstr (strL t)])] [] K ↔ K ⟨false, [xstr (strL (lineA ⟨k, w, n, t⟩))], []⟩ := Gives.k (scline_call k w n t hw hn hl) K
theorem rline_k (K : An → Prop) : CallK Tryd.prog pr 17 [.of (.agg [ci k, ci w, ci n, cstr (strL t)])] [] K ↔ K ⟨false, [xstr (strL (lineA ⟨k, w, n, t⟩))], []⟩ := Gives.k (rline_call k w n t hw hn hl) K
theorem line_len : (lineA ⟨k, w, n, t⟩).length ≤ t.length + 30 := by
  have l1 := itoa_short w hw.1 hw.2
  have l2 := itoa_short n hn.1 hn.2
  unfold lineA
  simp only
  split
  · simp only [List.length_append, List.length_cons, List.length_nil]; omega
  · split
    · simp only [List.length_append, List.length_cons, List.length_nil]; omega
    · split
      · simp only [List.length_append, List.length_cons, List.length_nil]; omega
      · split <;> simp
end
set_option maxRecDepth 100000 in
theorem plain_call (t : List UInt8) (hl : t.length ≤ 1048576) : G1 28 [.of (cstr (strL t))] (xbool (!decide ((10 : UInt8) ∈ t))) := by
  refine by_body rfl ok28 body28 ar28 rfl ?_
  simp -implicitDefEqProofs (maxSteps := 1000000) only [Tryd.f28, ↓zD, zU, Nat.zero_mul, Nat.reduceMul, List.length_map, Tk.nm.injEq, Tk.cell.injEq, false_and, and_false, Nat.le_add_right, Nat.le_refl, ↓reduceIte, Bool.or_false, Bool.false_or, Bool.and_true, Bool.true_and, Bool.false_and, Bool.true_or, Bool.or_true, Option.isNone_none, Option.isNone_some, List.any_cons, List.any_nil, Bool.and_false, Nat.reduceBEq, Nat.reduceLeDiff, Int.reduceLT, Int.reduceEq, Int.reduceLE, Int.reduceAdd, Int.reduceToNat, Int.reduceNeg, Int.cast_ofNat_Int, Nat.reduceLT, List.drop_succ_cons, List.take_succ_cons, List.singleton_append, Nat.zero_add, List.set_cons_zero, List.set_cons_succ, List.drop_nil, List.take_nil, Option.map_some, Option.map_none, Option.getD_some, Option.getD_none, Option.bind_some, List.cons_append, List.nil_append, List.append_nil, List.map_cons, List.map_nil, List.range_zero, List.take_zero, List.flatten_nil, List.filter_nil, List.length_nil, List.length_cons, List.drop_zero, List.not_mem_nil, List.mem_cons, Bool.true_eq_false, Bool.false_eq_true, Nat.reduceEqDiff, Nat.reduceAdd, List.getElem?_toArray, List.toList_toArray, List.getElem?_cons_zero, List.getElem?_cons_succ, decide_eq_true_eq, beq_self_eq_true, beq_true, beq_false, decide_true, decide_false, Bool.not_true, Bool.not_false, true_and, and_true, or_false, false_or, Bool.and_eq_true, reduceCtorEq, not_false_eq_true, cat_u, lit_strL, List.append_assoc, rv28, U9, U3]
  refine WC_inv _ _ (fun m s => ∃ k : Nat, k ≤ t.length ∧ m = t.length - k ∧ s.fr 0 = xstr (strL t) ∧ s.fr 3 = xint k ∧ s.objs = [] ∧ (10 : UInt8) ∉ t.take k) ?_ t.length _ ?_
  · rintro m s ⟨k, hk, rfl, f0, f3, ho, hn⟩
    have hw := wrapS k (by omega)
    by_cases c1 : k < t.length
    · have hi := index_str (T := TT.of Tryd.prog) (t := 9) U9 (strL t) k
      have c1' : k < (strL t).size := by rw [size_strL]; exact c1
      have d1 : decide ((k : Int) < (t.length : Int)) = true := decide_eq_true (by omega)
      have ht := List.take_succ_eq_append_getElem c1
      have ha : at8 (strL t) k = (t[k]).toNat := by rw [at8_get _ _ c1']; rfl
      simp only [Int.toNat_natCast] at hi
      rw [ha] at hi
      by_cases c2 : t[k] = 10
      · have c3 : (((t[k]).toNat : Nat) : Int) = 10 := by rw [c2]; rfl
        have hmem : (10 : UInt8) ∈ t := by rw [← c2]; exact List.getElem_mem c1
        simp -implicitDefEqProofs (maxSteps := 1000000) only [↓zD, zU, Nat.zero_mul, Nat.reduceMul, List.length_map, Tk.nm.injEq, Tk.cell.injEq, false_and, and_false, Nat.le_add_right, Nat.le_refl, ↓reduceIte, Bool.or_false, Bool.false_or, Bool.and_true, Bool.true_and, Bool.false_and, Bool.true_or, Bool.or_true, Option.isNone_none, Option.isNone_some, List.any_cons, List.any_nil, Bool.and_false, Nat.reduceBEq, Nat.reduceLeDiff, Int.reduceLT, Int.reduceEq, Int.reduceLE, Int.reduceAdd, Int.reduceToNat, Int.reduceNeg, Int.cast_ofNat_Int, Nat.reduceLT, List.drop_succ_cons, List.take_succ_cons, List.singleton_append, Nat.zero_add, List.set_cons_zero, List.set_cons_succ, List.drop_nil, List.take_nil, Option.map_some, Option.map_none, Option.getD_some, Option.getD_none, Option.bind_some, List.cons_append, List.nil_append, List.append_nil, List.map_cons, List.map_nil, List.range_zero, List.take_zero, List.flatten_nil, List.filter_nil, List.length_nil, List.length_cons, List.drop_zero, List.not_mem_nil, List.mem_cons, Bool.true_eq_false, Bool.false_eq_true, Nat.reduceEqDiff, Nat.reduceAdd, List.getElem?_toArray, List.toList_toArray, List.getElem?_cons_zero, List.getElem?_cons_succ, decide_eq_true_eq, beq_self_eq_true, beq_true, beq_false, decide_true, decide_false, Bool.not_true, Bool.not_false, true_and, and_true, or_false, false_or, Bool.and_eq_true, reduceCtorEq, not_false_eq_true, cat_u, lit_strL, List.append_assoc, f0, f3, ho, U9, U3, U5, size_strL, d1, hi, c1, Int.toNat_natCast, Int.natCast_nonneg, c3, hmem, rv28, Tryd.f28]
      · have c3 : ¬ (((t[k]).toNat : Nat) : Int) = 10 := by
          intro e
          apply c2
          apply UInt8.toNat_inj.1
          have : (10 : UInt8).toNat = 10 := rfl
          omega
        simp -implicitDefEqProofs (maxSteps := 1000000) only [↓zD, zU, Nat.zero_mul, Nat.reduceMul, List.length_map, Tk.nm.injEq, Tk.cell.injEq, false_and, and_false, Nat.le_add_right, Nat.le_refl, ↓reduceIte, Bool.or_false, Bool.false_or, Bool.and_true, Bool.true_and, Bool.false_and, Bool.true_or, Bool.or_true, Option.isNone_none, Option.isNone_some, List.any_cons, List.any_nil, Bool.and_false, Nat.reduceBEq, Nat.reduceLeDiff, Int.reduceLT, Int.reduceEq, Int.reduceLE, Int.reduceAdd, Int.reduceToNat, Int.reduceNeg, Int.cast_ofNat_Int, Nat.reduceLT, List.drop_succ_cons, List.take_succ_cons, List.singleton_append, Nat.zero_add, List.set_cons_zero, List.set_cons_succ, List.drop_nil, List.take_nil, Option.map_some, Option.map_none, Option.getD_some, Option.getD_none, Option.bind_some, List.cons_append, List.nil_append, List.append_nil, List.map_cons, List.map_nil, List.range_zero, List.take_zero, List.flatten_nil, List.filter_nil, List.length_nil, List.length_cons, List.drop_zero, List.not_mem_nil, List.mem_cons, Bool.true_eq_false, Bool.false_eq_true, Nat.reduceEqDiff, Nat.reduceAdd, List.getElem?_toArray, List.toList_toArray, List.getElem?_cons_zero, List.getElem?_cons_succ, decide_eq_true_eq, beq_self_eq_true, beq_true, beq_false, decide_true, decide_false, Bool.not_true, Bool.not_false, true_and, and_true, or_false, false_or, Bool.and_eq_true, reduceCtorEq, not_false_eq_true, cat_u, lit_strL, List.append_assoc, f0, f3, ho, U9, U3, U5, size_strL, d1, hi, c1, Int.toNat_natCast, Int.natCast_nonneg, c3, hw]
        refine ⟨_, ?_, k + 1, by omega, rfl, rfl, ?_⟩
        · omega
        · rw [ht]
          simp only [List.mem_append, List.mem_cons, List.not_mem_nil, or_false, not_or]
          exact ⟨hn, fun e => c2 e.symm⟩
    · have d1 : decide ((k : Int) < (t.length : Int)) = false := decide_eq_false (by omega)
      have hmem : (10 : UInt8) ∉ t := by rw [List.take_of_length_le (by omega)] at hn; exact hn
      simp -implicitDefEqProofs (maxSteps := 1000000) only [↓zD, zU, Nat.zero_mul, Nat.reduceMul, List.length_map, Tk.nm.injEq, Tk.cell.injEq, false_and, and_false, Nat.le_add_right, Nat.le_refl, ↓reduceIte, Bool.or_false, Bool.false_or, Bool.and_true, Bool.true_and, Bool.false_and, Bool.true_or, Bool.or_true, Option.isNone_none, Option.isNone_some, List.any_cons, List.any_nil, Bool.and_false, Nat.reduceBEq, Nat.reduceLeDiff, Int.reduceLT, Int.reduceEq, Int.reduceLE, Int.reduceAdd, Int.reduceToNat, Int.reduceNeg, Int.cast_ofNat_Int, Nat.reduceLT, List.drop_succ_cons, List.take_succ_cons, List.singleton_append, Nat.zero_add, List.set_cons_zero, List.set_cons_succ, List.drop_nil, List.take_nil, Option.map_some, Option.map_none, Option.getD_some, Option.getD_none, Option.bind_some, List.cons_append, List.nil_append, List.append_nil, List.map_cons, List.map_nil, List.range_zero, List.take_zero, List.flatten_nil, List.filter_nil, List.length_nil, List.length_cons, List.drop_zero, List.not_mem_nil, List.mem_cons, Bool.true_eq_false, Bool.false_eq_true, Nat.reduceEqDiff, Nat.reduceAdd, List.getElem?_toArray, List.toList_toArray, List.getElem?_cons_zero, List.getElem?_cons_succ, decide_eq_true_eq, beq_self_eq_true, beq_true, beq_false, decide_true, decide_false, Bool.not_true, Bool.not_false, true_and, and_true, or_false, false_or, Bool.and_eq_true, reduceCtorEq, not_false_eq_true, cat_u, lit_strL, List.append_assoc, f0, f3, ho, U9, U3, U5, size_strL, d1, hmem, rv28, Tryd.f28]
  · exact ⟨0, by omega, by omega, by simp -implicitDefEqProofs (maxSteps := 1000000) only [↓zD, zU, Nat.zero_mul, Nat.reduceMul, List.length_map, Tk.nm.injEq, Tk.cell.injEq, false_and, and_false, Nat.le_add_right, Nat.le_refl, ↓reduceIte, Bool.or_false, Bool.false_or, Bool.and_true, Bool.true_and, Bool.false_and, Bool.true_or, Bool.or_true, Option.isNone_none, Option.isNone_some, List.any_cons, List.any_nil, Bool.and_false, Nat.reduceBEq, Nat.reduceLeDiff, Int.reduceLT, Int.reduceEq, Int.reduceLE, Int.reduceAdd, Int.reduceToNat, Int.reduceNeg, Int.cast_ofNat_Int, Nat.reduceLT, List.drop_succ_cons, List.take_succ_cons, List.singleton_append, Nat.zero_add, List.set_cons_zero, List.set_cons_succ, List.drop_nil, List.take_nil, Option.map_some, Option.map_none, Option.getD_some, Option.getD_none, Option.bind_some, List.cons_append, List.nil_append, List.append_nil, List.map_cons, List.map_nil, List.range_zero, List.take_zero, List.flatten_nil, List.filter_nil, List.length_nil, List.length_cons, List.drop_zero, List.not_mem_nil, List.mem_cons, Bool.true_eq_false, Bool.false_eq_true, Nat.reduceEqDiff, Nat.reduceAdd, List.getElem?_toArray, List.toList_toArray, List.getElem?_cons_zero, List.getElem?_cons_succ, decide_eq_true_eq, beq_self_eq_true, beq_true, beq_false, decide_true, decide_false, Bool.not_true, Bool.not_false, true_and, and_true, or_false, false_or, Bool.and_eq_true, reduceCtorEq, not_false_eq_true, cat_u, lit_strL, List.append_assoc], by simp -implicitDefEqProofs (maxSteps := 1000000) only [↓zD, zU, Nat.zero_mul, Nat.reduceMul, List.length_map, Tk.nm.injEq, Tk.cell.injEq, false_and, and_false, Nat.le_add_right, Nat.le_refl, ↓reduceIte, Bool.or_false, Bool.false_or, Bool.and_true, Bool.true_and, Bool.false_and, Bool.true_or, Bool.or_true, Option.isNone_none, Option.isNone_some, List.any_cons, List.any_nil, Bool.and_false, Nat.reduceBEq, Nat.reduceLeDiff, Int.reduceLT, Int.reduceEq, Int.reduceLE, Int.reduceAdd, Int.reduceToNat, Int.reduceNeg, Int.cast_ofNat_Int, Nat.reduceLT, List.drop_succ_cons, List.take_succ_cons, List.singleton_append, Nat.zero_add, List.set_cons_zero, List.set_cons_succ, List.drop_nil, List.take_nil, Option.map_some, Option.map_none, Option.getD_some, Option.getD_none, Option.bind_some, List.cons_append, List.nil_append, List.append_nil, List.map_cons, List.map_nil, List.range_zero, List.take_zero, List.flatten_nil, List.filter_nil, List.length_nil, List.length_cons, List.drop_zero, List.not_mem_nil, List.mem_cons, Bool.true_eq_false, Bool.false_eq_true, Nat.reduceEqDiff, Nat.reduceAdd, List.getElem?_toArray, List.toList_toArray, List.getElem?_cons_zero, List.getElem?_cons_succ, decide_eq_true_eq, beq_self_eq_true, beq_true, beq_false, decide_true, decide_false, Bool.not_true, Bool.not_false, true_and, and_true, or_false, false_or, Bool.and_eq_true, reduceCtorEq, not_false_eq_true, cat_u, lit_strL, List.append_assoc] <;> rfl, by simp -implicitDefEqProofs (maxSteps := 1000000) only [↓zD, zU, Nat.zero_mul, Nat.reduceMul, List.length_map, Tk.nm.injEq, Tk.cell.injEq, false_and, and_false, Nat.le_add_right, Nat.le_refl, ↓reduceIte, Bool.or_false, Bool.false_or, Bool.and_true, Bool.true_and, Bool.false_and, Bool.true_or, Bool.or_true, Option.isNone_none, Option.isNone_some, List.any_cons, List.any_nil, Bool.and_false, Nat.reduceBEq, Nat.reduceLeDiff, Int.reduceLT, Int.reduceEq, Int.reduceLE, Int.reduceAdd, Int.reduceToNat, Int.reduceNeg, Int.cast_ofNat_Int, Nat.reduceLT, List.drop_succ_cons, List.take_succ_cons, List.singleton_append, Nat.zero_add, List.set_cons_zero, List.set_cons_succ, List.drop_nil, List.take_nil, Option.map_some, Option.map_none, Option.getD_some, Option.getD_none, Option.bind_some, List.cons_append, List.nil_append, List.append_nil, List.map_cons, List.map_nil, List.range_zero, List.take_zero, List.flatten_nil, List.filter_nil, List.length_nil, List.length_cons, List.drop_zero, List.not_mem_nil, List.mem_cons, Bool.true_eq_false, Bool.false_eq_true, Nat.reduceEqDiff, Nat.reduceAdd, List.getElem?_toArray, List.toList_toArray, List.getElem?_cons_zero, List.getElem?_cons_succ, decide_eq_true_eq, beq_self_eq_true, beq_true, beq_false, decide_true, decide_false, Bool.not_true, Bool.not_false, true_and, and_true, or_false, false_or, Bool.and_eq_true, reduceCtorEq, not_false_eq_true, cat_u, lit_strL, List.append_assoc], by simp⟩
end Go.Proofs.YtcmgabicladmlaaDoor

/-
  An abstract machine for Go code over plain data: pieces of aggregates, slices, literals, append. Conditions: none.
-/
import Derived.Test.YtiepbejeiijpmaaDoorPe4
namespace Go.Pe
open Go.RowKit

section
variable {P : Program} {M0 : Base} {k : Know} {ow : Own} {done : Nat → Prop} {w0 w : World} {N : Nat} {s : S} {tmps : Array Value}

/-! ### Pieces -/
theorem run_part {t : Nat} {d : TD} (hT : TT.of P t = some d) (vs : List Value) (o : Nat) (h1 : d.agg = false → o < vs.length) :
    (part t vs.toArray o).run P w = .ok (if d.agg then .agg ((vs.drop o).take d.size).toArray else (vs.drop o).headD undef) w := by
  have ok := TT.of_ok hT
  unfold part
  rw [Sem.run_bind, ok.run_isAgg, Result.andThen_ok]
  cases hagg : d.agg with
  | true =>
    simp only [if_true, Sem.run_bind, ok.run_size, Result.andThen_ok, Sem.run_pure]
    congr 2
    apply Array.ext'
    simp [List.extract_eq_take_drop]
  | false =>
    have hlt := h1 hagg
    simp only [Bool.false_eq_true, if_false]
    have : vs.toArray[o]? = some vs[o] := by simp [hlt]
    rw [this]
    simp only [Sem.run_pure]
    congr 1
    rw [List.drop_eq_getElem_cons hlt]
    rfl

theorem field_sound {t f : Nat} {x y : X} {e : Option Tk} {v : Value} (h : fieldX (TT.of P) t f x = some (y, e)) (hx : RepX k ow x v) :
    e = none ∧ ∃ u, (Instr.field t v f).run P w = .ok u w ∧ RepX k ow y u := by
  unfold fieldX at h
  split at h
  · rename_i d hT
    have ok := TT.of_ok hT
    split at h
    · rename_i o z u hf hu
      have hfl := ok.fields
      unfold fieldTy at hu
      split at hu
      · rename_i fs i hund
        rw [hund] at hfl
        obtain ⟨fl, h1, h2, _⟩ := fields_at hfl hf
        rw [h1] at hu
        simp only [Option.map_some, Option.some.injEq] at hu
        have hru := ok.run_und w
        rw [hund] at hru
        split at h
        · rename_i xs
          simp only [outO, Option.map_eq_some_iff, Prod.mk.injEq] at h
          obtain ⟨y', h, rfl, rfl⟩ := h
          simp only [RepX] at hx
          obtain ⟨vs, rfl, hone, hl⟩ := hx
          obtain ⟨d', hT'⟩ := pieceX_T h
          obtain ⟨g1, g2, g3⟩ := pieceX_rep hT' h (hl.dropN o) (fun u hu => hone u (List.mem_of_mem_drop hu))
          refine ⟨rfl, _, ?_, g3⟩
          have hp := run_part (w := w) hT' vs o (fun ha => by have := g2 ha; simp at this; omega)
          simp [Instr.field, hru, h1, asAgg, hu, h2, hp]
        · rename_i cs
          simp only [outO, Option.map_eq_some_iff, Prod.mk.injEq] at h
          obtain ⟨y', ⟨c, h, rfl⟩, rfl, rfl⟩ := h
          simp only [RepX, Rep] at hx
          obtain ⟨vs, rfl, hone, hl⟩ := hx
          obtain ⟨d', hT'⟩ := pieceC_T h
          obtain ⟨g1, g2, g3⟩ := pieceC_rep hT' h (hl.drop o) (fun u hu => hone u (List.mem_of_mem_drop hu))
          refine ⟨rfl, _, ?_, by simpa only [RepX] using g3⟩
          have hp := run_part (w := w) hT' vs o (fun ha => by have := g2 ha; simp at this; omega)
          simp [Instr.field, hru, h1, asAgg, hu, h2, hp]
        · cases h
      · cases hu
    · cases h
  · cases h

theorem strD {u : Option TypeDesc} (h : isStrD u = true) : u = some .string := by
  unfold isStrD at h
  split at h
  · rfl
  · cases h
theorem slD {u : Option TypeDesc} (h : isSlD u = true) : ∃ e, u = some (.slice e) := by
  unfold isSlD at h
  split at h
  · exact ⟨_, rfl⟩
  · cases h
theorem T_und {t : Nat} {u : TypeDesc} (h : (TT.of P t).map (·.und) = some u) : (underlying t).run P w = .ok u w := by
  cases hT : TT.of P t with
  | none => simp [hT] at h
  | some d =>
    simp only [hT, Option.map_some, Option.some.injEq] at h
    rw [← h]
    exact (TT.of_ok hT).run_und w

theorem index_sound {t : Nat} {x i y : X} {e : Option Tk} {v vi : Value} (h : indexX (TT.of P) t x i = some (y, e)) (hx : RepX k ow x v) (hi : RepX k ow i vi) :
    e = none ∧ ∃ u, (Instr.index t v vi).run P w = .ok u w ∧ RepX k ow y u := by
  unfold indexX at h
  split at h
  · cases h
  · rename_i n hn
    obtain rfl := lit_int hn hi
    split at h
    · rename_i st
      split at h
      · rename_i hc
        simp only [out, Option.some.injEq, Prod.mk.injEq] at h
        obtain ⟨rfl, rfl⟩ := h
        simp only [RepX, Rep] at hx
        obtain ⟨rfl, _⟩ := hx
        have hru := T_und (w := w) (strD hc.1)
        refine ⟨rfl, .int .u8 (st[n.toNat]'hc.2.2).toNat, ?_, by simp [RepX, Rep, Value.oneCell']⟩
        have hg : st[n.toNat]? = some (st[n.toNat]'hc.2.2) := by simp [hc.2.2]
        simp [Instr.index, asIntOf, hru, hc.2.1, hg]
      · cases h
    · rename_i xs
      split at h
      · rename_i len el sz by_ ag ze fi hT
        have hru := (TT.of_ok hT).run_und w
        simp only at hru
        split at h
        · rename_i d hd
          split at h
          · rename_i hc
            simp only [outO, Option.map_eq_some_iff, Prod.mk.injEq] at h
            obtain ⟨y', h, rfl, rfl⟩ := h
            simp only [RepX] at hx
            obtain ⟨vs, rfl, hone, hl⟩ := hx
            obtain ⟨g1, g2, g3⟩ := pieceX_rep hd h (hl.dropN _) (fun u hu => hone u (List.mem_of_mem_drop hu))
            refine ⟨rfl, _, ?_, g3⟩
            have hp := run_part (w := w) hd vs (n.toNat * d.size) (fun ha => by have := g2 ha; simp at this; omega)
            simp [Instr.index, asIntOf, hru, hc.1, hc.2, (TT.of_ok hd).run_size, hp]
          · cases h
        · cases h
      · cases h
    · rename_i cs
      split at h
      · rename_i len el sz by_ ag ze fi hT
        have hru := (TT.of_ok hT).run_und w
        simp only at hru
        split at h
        · rename_i d hd
          split at h
          · rename_i hc
            simp only [outO, Option.map_eq_some_iff, Prod.mk.injEq] at h
            obtain ⟨y', ⟨c, h, rfl⟩, rfl, rfl⟩ := h
            simp only [RepX, Rep] at hx
            obtain ⟨vs, rfl, hone, hl⟩ := hx
            obtain ⟨g1, g2, g3⟩ := pieceC_rep hd h (hl.drop _) (fun u hu => hone u (List.mem_of_mem_drop hu))
            refine ⟨rfl, _, ?_, by simpa only [RepX] using g3⟩
            have hp := run_part (w := w) hd vs (n.toNat * d.size) (fun ha => by have := g2 ha; simp at this; omega)
            simp [Instr.index, asIntOf, hru, hc.1, hc.2, (TT.of_ok hd).run_size, hp]
          · cases h
        · cases h
      · cases h
    · cases h

theorem len_sound {t ty : Nat} {x y : X} {e : Option Tk} {v : Value} (h : lenX ((TT.of P t).map (·.und)) x = some (y, e)) (hx : RepX k ow x v) :
    e = none ∧ ∃ u, (Builtin.len_ #[t] ty #[v]).run P w = .ok u w ∧ RepX k ow y u := by
  unfold lenX at h
  split at h
  · rename_i st
    split at h
    · rename_i hs
      simp only [out, Option.some.injEq, Prod.mk.injEq] at h
      obtain ⟨rfl, rfl⟩ := h
      simp only [RepX, Rep] at hx
      obtain ⟨rfl, _⟩ := hx
      exact ⟨rfl, .int .i64 st.size, by simp [Builtin.len_, T_und (w := w) (strD hs), goInt], by simp [RepX, Rep, Value.oneCell']⟩
    · cases h
  · split at h
    · rename_i cs n hsl
      split at h
      · rename_i hs
        obtain ⟨el, hs⟩ := slD hs
        simp only [out, Option.some.injEq, Prod.mk.injEq] at h
        obtain ⟨rfl, rfl⟩ := h
        have hs2 := as_sl hsl hx
        simp only [Rep] at hs2
        obtain ⟨a, cap, vs, rfl, _⟩ := hs2
        exact ⟨rfl, .int .i64 n, by simp [Builtin.len_, T_und (w := w) hs, goInt], by simp [RepX, Rep, Value.oneCell']⟩
      · cases h
    · cases h

theorem convert_sound {a b : Nat} {x y : X} {e : Option Tk} {v : Value} (h : convertX (TT.of P) a b x = some (y, e)) (hx : RepX k ow x v) :
    e = none ∧ ∃ u, (convert a b v).run P w = .ok u w ∧ RepX k ow y u := by
  unfold convertX at h
  split at h
  · rename_i d kk kk' n hd hT
    simp only [out, Option.some.injEq, Prod.mk.injEq] at h
    obtain ⟨rfl, rfl⟩ := h
    simp only [RepX, Rep] at hx
    obtain ⟨rfl, _⟩ := hx
    refine ⟨rfl, .int kk (kk.wrap n), ?_, by simp [RepX, Rep, Value.oneCell']⟩
    simp [convert, (TT.of_ok hd).run_und, T_und (w := w) hT, Conv.intToInt]
  · rename_i d s' hd hT
    simp only [out, Option.some.injEq, Prod.mk.injEq] at h
    obtain ⟨rfl, rfl⟩ := h
    simp only [RepX, Rep] at hx
    obtain ⟨rfl, _⟩ := hx
    refine ⟨rfl, .string s', ?_, by simp [RepX, Rep, Value.oneCell']⟩
    simp [convert, (TT.of_ok hd).run_und, T_und (w := w) hT]
  · cases h

theorem elemOf_und {t e : Nat} {d : TD} (h : elemOf (TT.of P) t = some (e, d)) : (TT.of P t).map (·.und) = some (.slice e) ∧ TT.of P e = some d := by
  unfold elemOf at h
  split at h
  · rename_i el _ _ _ _ _ hT
    simp only [Option.map_eq_some_iff, Prod.mk.injEq] at h
    obtain ⟨d', hd, rfl, rfl⟩ := h
    exact ⟨by simp [hT], hd⟩
  · cases h

def RepO (k : Know) (ow : Own) : Option X → Option Value → Prop
  | none, none => True
  | some x, some v => RepX k ow x v
  | _, _ => False

theorem opt_int {x : Option X} {n d : Int} {v : Option Value} (h : bndX d x = some n) (hx : RepO k ow x v) : (v = none ∧ n = d) ∨ v = some (.int .i64 n) := by
  cases x with
  | none =>
    cases v with
    | none => simp only [bndX, Option.some.injEq] at h; exact .inl ⟨rfl, h.symm⟩
    | some v => exact hx.elim
  | some x =>
    cases v with
    | none => exact hx.elim
    | some v => exact .inr (by rw [lit_int h hx])

theorem run_bounds {sl : Bool} {len cap : Nat} {l h : Int} {vl vh : Option Value} (hl : (vl = none ∧ l = 0) ∨ vl = some (.int .i64 l)) (hh : (vh = none ∧ h = (len : Int)) ∨ vh = some (.int .i64 h))
    (h0 : 0 ≤ l) (h1 : l ≤ h) (h2 : h ≤ (cap : Int)) : (Instr.sliceBounds sl len cap vl vh none).run P w = .ok (l.toNat, h.toNat, cap) w := by
  have b1 : 0 ≤ h := by omega
  have b2 : (h.toNat : Int) = h := by omega
  rcases hl with ⟨rfl, rfl⟩ | rfl <;> rcases hh with ⟨rfl, rfl⟩ | rfl
  · simp [Instr.sliceBounds]
  · simp [Instr.sliceBounds, Instr.sliceBound, asIntOf, b1, h2]
  · have : l ≤ (len : Int) := h1
    simp [Instr.sliceBounds, Instr.sliceBound, asIntOf, h0, this]
  · have : l ≤ (h.toNat : Int) := by omega
    simp [Instr.sliceBounds, Instr.sliceBound, asIntOf, b1, h2, h0]
    intro hlt
    omega

theorem slice_sound {t : Nat} {x y : X} {lo hi : Option X} {e : Option Tk} {v : Value} {vl vh : Option Value} (h : sliceX (TT.of P) t x lo hi = some (y, e)) (hx : RepX k ow x v)
    (hl : RepO k ow lo vl) (hh : RepO k ow hi vh) :
    e = none ∧ ∃ u, (Instr.sliceAt t v vl vh none).run P w = .ok u w ∧ RepX k ow y u := by
  unfold sliceX at h
  split at h
  · rename_i st
    split at h
    · rename_i hs
      split at h
      · rename_i l h' e1 e2
        split at h
        · rename_i hc
          simp only [out, Option.some.injEq, Prod.mk.injEq] at h
          obtain ⟨rfl, rfl⟩ := h
          simp only [RepX, Rep] at hx
          obtain ⟨rfl, _⟩ := hx
          have hru := T_und (w := w) (strD hs)
          have r1 : (vl = none ∧ l = 0) ∨ vl = some (.int .i64 l) := opt_int e1 hl
          have r2 : (vh = none ∧ h' = (st.size : Int)) ∨ vh = some (.int .i64 h') := opt_int e2 hh
          refine ⟨rfl, .string (st.extract l.toNat h'.toNat), ?_, by simp [RepX, Rep, Value.oneCell']⟩
          simp [Instr.sliceAt, Instr.slice, hru, run_bounds (P := P) (w := w) (sl := false) r1 r2 hc.1 hc.2.1 hc.2.2]
        · cases h
      · cases h
    · cases h
  · split at h
    · rename_i el d cs n he hsl
      split at h
      · rename_i l h' e1 e2
        split at h
        · rename_i hc
          obtain ⟨c1, c2, c3, c4⟩ := hc
          simp only [out, Option.some.injEq, Prod.mk.injEq] at h
          obtain ⟨rfl, rfl⟩ := h
          obtain ⟨hund, hd⟩ := elemOf_und he
          have hru := T_und (w := w) hund
          have hs := as_sl hsl hx
          simp only [Rep] at hs
          obtain ⟨a, cap, vs, rfl, hcap, hvl, hm⟩ := hs
          have r1 : (vl = none ∧ l = 0) ∨ vl = some (.int .i64 l) := opt_int e1 hl
          have r2 : (vh = none ∧ h' = (n : Int)) ∨ vh = some (.int .i64 h') := opt_int e2 hh
          have hb := run_bounds (P := P) (w := w) (sl := true) (cap := cap) r1 r2 c1 c2 (by omega)
          refine ⟨rfl, .slice (if cap = l.toNat then a else a.map (·.add (l.toNat * d.size))) (h'.toNat - l.toNat) (cap - l.toNat), ?_, ?_⟩
          · simp [Instr.sliceAt, Instr.slice, hru, hb, (TT.of_ok hd).run_size]
          · simp only [RepX, Rep]
            refine ⟨_, _, (vs.drop (l.toNat * d.size)).take ((h'.toNat - l.toNat) * d.size), rfl, by omega, (hvl.drop _).take _, fun hne => ?_⟩
            have hlt : l.toNat < h'.toNat := by
              rcases Nat.lt_or_ge l.toNat h'.toNat with g | g
              · exact g
              · have : h'.toNat - l.toNat = 0 := by omega
                rw [this] at hne
                simp at hne
            have hvs : vs ≠ [] := by
              rintro rfl
              simp at hne
            obtain ⟨b, o, rfl, hm2⟩ := hm hvs
            rw [if_neg (by omega)]
            refine ⟨b, o + l.toNat * d.size, by simp [Addr.add_lit], fun i u hu => ?_⟩
            rw [List.getElem?_take] at hu
            split at hu
            · rw [List.getElem?_drop] at hu
              rw [Nat.add_assoc]
              exact hm2 _ _ hu
            · cases hu
        · cases h
      · cases h
    · cases h

/-! ### Literals -/
theorem fold_set (off : Nat) : ∀ (vs : List Value) (cells : Array Value) (j : Nat), off + j + vs.length ≤ cells.size →
    ((vs.zipIdx j).foldl (fun cs p => cs.setIfInBounds (off + p.2) p.1) cells).toList = cells.toList.take (off + j) ++ vs ++ cells.toList.drop (off + j + vs.length)
  | [], cells, j, _ => by simp
  | v :: r, cells, j, h => by
    simp only [List.length_cons] at h
    simp only [List.zipIdx_cons, List.foldl_cons]
    rw [fold_set off r (cells.setIfInBounds (off + j) v) (j + 1) (by simp; omega)]
    have hlt : off + j < cells.toList.length := by simp; omega
    have e1 : (cells.setIfInBounds (off + j) v).toList = cells.toList.set (off + j) v := by simp
    rw [e1]
    have e2 : (cells.toList.set (off + j) v).take (off + (j + 1)) = cells.toList.take (off + j) ++ [v] := by
      rw [← Nat.add_assoc, List.take_succ_eq_append_getElem (by simpa using hlt)]
      simp [List.take_set_of_le]
    have e3 : (cells.toList.set (off + j) v).drop (off + (j + 1) + r.length) = cells.toList.drop (off + j + (v :: r).length) := by
      rw [List.drop_set_of_lt (by omega)]
      congr 1
      simp only [List.length_cons]
      omega
    rw [e2, e3]
    simp

theorem fill_set (vs : List Value) (cells : Array Value) (off : Nat) (h : off + vs.length ≤ cells.size) :
    (vs.toArray.zipIdx.foldl (fun cs (c, j) => cs.setIfInBounds (off + j) c) cells).toList = cells.toList.take off ++ vs ++ cells.toList.drop (off + vs.length) := by
  rw [← Array.foldl_toList, Array.toList_zipIdx]
  exact fold_set off vs cells 0 (by simpa using h)

end
end Go.Pe

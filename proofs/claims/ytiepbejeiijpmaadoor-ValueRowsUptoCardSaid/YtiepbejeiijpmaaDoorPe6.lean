/-
  An abstract machine for Go code over plain data: literals of structs and slices, append, what they make. Conditions: none.
-/
import Derived.Test.YtiepbejeiijpmaaDoorPe5
namespace Go.Pe
open Go.RowKit

section
variable {P : Program} {M0 : Base} {k : Know} {ow : Own} {done : Nat → Prop} {w0 w : World} {N : Nat} {s : S} {tmps : Array Value}

/-! ### Parts laid into a row -/
inductive RepParts (k : Know) (ow : Own) : List (Nat × List X) → List (Nat × Value) → Prop where
  | nil : RepParts k ow [] []
  | cons {i : Nat} {xs : List X} {v : Value} {qs : List (Nat × List X)} {ps : List (Nat × Value)} (h : RepXs k ow xs v.cells.toList) (h1 : ∀ u ∈ v.cells.toList, u.oneCell' = true)
      (r : RepParts k ow qs ps) : RepParts k ow ((i, xs) :: qs) ((i, v) :: ps)

theorem partsX_rep {f : Operand → X} {g : Operand → Value} (hf : ∀ x, RepX k ow (f x) (g x)) : ∀ (ps : List (Nat × Operand)) (qs : List (Nat × List X)), partsX f ps = some qs → RepParts k ow qs (ps.map fun p => (p.1, g p.2))
  | [], qs, h => by simp only [partsX, Option.some.injEq] at h; subst h; exact .nil
  | (i, x) :: r, qs, h => by
    simp only [partsX] at h
    split at h
    · rename_i l q hl hq
      simp only [Option.some.injEq] at h
      subst h
      obtain ⟨h1, h2⟩ := repX_cells hl (hf x)
      exact .cons h1 h2 (partsX_rep hf r q hq)
    · cases h

theorem fill_sound (place : Nat → Option (Nat × Nat)) : ∀ {qs : List (Nat × List X)} {ps : List (Nat × Value)} {cells r : List X} {vals : Array Value}, RepParts k ow qs ps → fillX place cells qs = some r →
    RepXs k ow cells vals.toList → (∀ u ∈ vals.toList, u.oneCell' = true) → ∃ o, Instr.fill place vals ps = some o ∧ RepXs k ow r o.toList ∧ ∀ u ∈ o.toList, u.oneCell' = true := by
  intro qs ps cells r vals hp
  induction hp generalizing cells vals with
  | nil =>
    intro h hc h1
    simp only [fillX, Option.some.injEq] at h
    subst h
    exact ⟨vals, rfl, hc, h1⟩
  | @cons i xs v qs ps hx hx1 hr ih =>
    intro h hc h1
    simp only [fillX] at h
    split at h
    · cases h
    · rename_i off size hpl
      split at h
      · rename_i hsz
        have hlx : v.cells.size = xs.length := by have := hx.length; simpa using this
        have hlc : vals.size = cells.length := by have := hc.length; simpa using this
        simp only [Instr.fill, hpl]
        have hcond : (decide (v.cells.size ≠ size) || decide (off + v.cells.size > vals.size)) = false := by
          simp
          omega
        have hset := fill_set v.cells.toList vals off (by simp; omega)
        simp only [Array.toArray_toList] at hset
        have hne : ¬ (v.cells.size ≠ size ∨ off + v.cells.size > vals.size) := by omega
        have hlv : v.cells.toList.length = size := by simp; omega
        obtain ⟨o, ho, h2, h3⟩ := ih (vals := v.cells.zipIdx.foldl (fun cs (c, j) => cs.setIfInBounds (off + j) c) vals) h
          (by
            rw [hset, hlv]
            have e : (off + size) = off + size := rfl
            exact ((hc.takeN off).append hx).append (hc.dropN (off + size)))
          (by
            rw [hset]
            intro u hu
            simp only [List.mem_append] at hu
            rcases hu with (hu | hu) | hu
            · exact h1 u (List.mem_of_mem_take hu)
            · exact hx1 u hu
            · exact h1 u (List.mem_of_mem_drop hu))
        refine ⟨o, ?_, h2, h3⟩
        rw [← ho]
        simp [hne]
      · cases h

theorem zeroX_rep (l : List Value) : RepXs k ow (l.map ofVal) l := by
  induction l with
  | nil => simp [RepXs]
  | cons v r ih => simp only [List.map_cons, RepXs]; exact ⟨v, r, rfl, ofVal_rep k ow v, ih⟩

theorem build_sound {t : Nat} {d : TD} {qs : List (Nat × List X)} {ps : Array (Nat × Value)} {fs : Array Field} {xs : List X} (hT : TT.of P t = some d) (hd : d.und = .struct fs)
    (hp : RepParts k ow qs ps.toList) (h : fillX (fun i => d.fields[i]?) (zeroX d) qs = some xs) : ∃ u, (Instr.build t ps).run P w = .ok u w ∧ RepX k ow (.agg xs) u := by
  have ok := TT.of_ok hT
  obtain ⟨z, hz, hz2⟩ := ok.run_zero w
  have hru := ok.run_und w
  rw [hd] at hru
  have hfl := ok.fields
  rw [hd] at hfl
  obtain ⟨o, ho, h2, h3⟩ := fill_sound (k := k) (ow := ow) (fun i => d.fields[i]?) (vals := z.cells) hp h (by rw [hz2]; exact zeroX_rep _) (by rw [hz2]; exact ok.one)
  refine ⟨.agg o, ?_, by simp only [RepX]; exact ⟨o.toList, rfl, h3, h2⟩⟩
  have hpl : (fun x : Nat => d.fields.toArray[x]?) = fun i => d.fields[i]? := by funext i; simp
  simp only [fieldsOf] at hfl
  simp [Instr.build, hz, hru, Array.mapM_eq_mapM_toList, run_places w _ _ hfl, ho]

theorem build_array_sound {t e n : Nat} {d de : TD} {qs : List (Nat × List X)} {ps : Array (Nat × Value)} {xs : List X} (hT : TT.of P t = some d) (hd : d.und = .array n e) (hE : TT.of P e = some de)
    (hp : RepParts k ow qs ps.toList) (h : fillX (fun i => some (i * de.size, de.size)) (zeroX d) qs = some xs) : ∃ u, (Instr.build t ps).run P w = .ok u w ∧ RepX k ow (.agg xs) u := by
  have ok := TT.of_ok hT
  obtain ⟨z, hz, hz2⟩ := ok.run_zero w
  have hru := ok.run_und w
  rw [hd] at hru
  obtain ⟨o, ho, h2, h3⟩ := fill_sound (k := k) (ow := ow) (fun i => some (i * de.size, de.size)) (vals := z.cells) hp h (by rw [hz2]; exact zeroX_rep _) (by rw [hz2]; exact ok.one)
  refine ⟨.agg o, ?_, by simp only [RepX]; exact ⟨o.toList, rfl, h3, h2⟩⟩
  simp [Instr.build, hz, hru, (TT.of_ok hE).run_size, ho]

theorem range_zeros (zs : List Value) (d : Value) : ∀ n, (List.range (n * zs.length)).map (fun i => zs.getD (i % zs.length) d) = (List.replicate n zs).flatten
  | 0 => by simp
  | n + 1 => by
    have ih := range_zeros zs d n
    have hz : (List.range zs.length).map (fun i => zs.getD (i % zs.length) d) = zs := by
      apply List.ext_getElem (by simp)
      intro i h1 h2
      simp at h1
      simp [Nat.mod_eq_of_lt h1, h1]
    have hs : (n + 1) * zs.length = zs.length + n * zs.length := by rw [Nat.add_mul, Nat.one_mul, Nat.add_comm]
    rw [hs, List.range_add, List.map_append, hz, List.map_map, List.replicate_succ, List.flatten_cons, ← ih]
    congr 1
    apply List.map_congr_left
    intro i _
    simp

/-- A row of the call's own, new or written on: known and owned. -/
theorem Sim.row (h : Sim M0 k ow done w0 w N s tmps) {row : Option Nat} {w' : World} {v' : Value} {e z n' : Nat} {us : List Value} {cs : List C} {c ix i : Nat}
    (hrow : ∀ g, row = some g → Mine M0.mod w0 g ∧ (∀ r, k.μ r ≠ some g) ∧ (∀ t v e z n, ow t = some (v, e, z, n) → v.ownBlock ≠ some g) ∧ ∀ o u, k.m g o = some u → us[o]? = some u)
    (hg : w.grownBy w' row) (hown : w'.ownsRow 0 e z v' n' us) (hv : v'.ownBlock = row ∨ (v'.ownBlock = some w.heap.size ∧ row = none))
    (hcs : RepL k.m cs us) (h1 : ∀ u ∈ us, u.oneCell' = true) (ht : ow (.nm c ix i) = none) (hf : c < s.clk ∨ (c = s.clk ∧ done ix)) :
    ∃ k', k.le k' ∧ Sim M0 k' (ow.add (.nm c ix i) (v', e, z, n')) done w0 w' N s tmps ∧ RepX k' (ow.add (.nm c ix i) (v', e, z, n')) (.own (.nm c ix i) e z cs n') v' := by
  have hmlt : ∀ b o u, k.m b o = some u → b < w.heap.size := fun b o u hm => mem_lt h.mem hm
  -- the block that is known from now on
  let k' : Know := { m := fun b o => if some b = v'.ownBlock then us[o]? else k.m b o, μ := k.μ }
  have hm' : ∀ b o, k'.m b o = if some b = v'.ownBlock then us[o]? else k.m b o := fun _ _ => rfl
  have hle : k.le k' := by
    refine ⟨fun b o u hm => ?_, fun _ _ h => h⟩
    rw [hm']
    split
    · rename_i hb
      rcases hv with hv | ⟨hv, _⟩
      · exact (hrow b (by rw [← hv, ← hb])).2.2.2 o u hm
      · rw [hv] at hb
        have := hmlt b o u hm
        simp only [Option.some.injEq] at hb
        omega
    · exact hm
  have hbw : Keeps M0.mod w0 w' := ⟨hg.os.trans h.below.os, hg.tape.trans h.below.tape, hg.output.trans h.below.output, Nat.le_trans h.below.size hg.size,
    fun b hb hm => (hg.block b (Nat.lt_of_lt_of_le hb h.below.size) (fun e => by rcases (hrow b e.symm).1 with h1 | h1; omega; exact hm h1)).trans (h.below.block b hb hm)⟩
  have hblk : ∀ b, b < w.heap.size → some b ≠ row → w'.heap[b]? = w.heap[b]? := hg.block
  have hmem : ∀ b o u, k'.m b o = some u → w'.cell? ⟨b, o, none⟩ = some u ∧ u.oneCell' = true := by
    intro b o u hm
    rw [hm'] at hm
    split at hm
    · rename_i hb
      refine ⟨?_, h1 u (List.mem_of_getElem? hm)⟩
      have := hown.cells (g := b) hb.symm o u hm
      rwa [Addr.add_lit, Nat.zero_add] at this
    · rename_i hb
      obtain ⟨g1, g2⟩ := h.mem b o u hm
      have hlt := hmlt b o u hm
      have hne : some b ≠ row := by
        rcases hv with hv | ⟨_, hv⟩
        · rw [← hv]; exact hb
        · rw [hv]; simp
      exact ⟨(World.cell?_of_block (a := ⟨b, o, none⟩) (hblk b hlt hne)).trans g1, g2⟩
  have hnew : ∀ g, v'.ownBlock = some g → Mine M0.mod w0 g ∧ (∀ r, k.μ r ≠ some g) ∧ (∀ t v e z n, ow t = some (v, e, z, n) → v.ownBlock ≠ some g) := by
    intro g hgo
    rcases hv with hv | ⟨hv, _⟩
    · obtain ⟨a, b, c, _⟩ := hrow g (by rw [← hv, hgo]); exact ⟨a, b, c⟩
    · have e1 : g = w.heap.size := Option.some.inj (hgo.symm.trans hv)
      subst e1
      refine ⟨.inl h.below.size, fun r hr => ?_, fun t v e z n ho hb => ?_⟩
      · have := (h.lt hr).2.1
        omega
      · have := (h.tlt ho hb).2
        omega
  have hSim : Sim M0 k' ow done w0 w' N s tmps := {
    good := h.good
    size := h.size
    cells := h.cells
    below := hbw
    fr := fun j => RepX.mono hle (fun _ _ h => h) _ _ (h.fr j)
    mem := hmem
    obj := fun r ob hr => by
      obtain ⟨b, g1, g2, g3, g4, g5⟩ := h.obj r ob hr
      have hne : some b ≠ row := fun e => (hrow b e.symm).2.1 r g1
      have hnb : some b ≠ v'.ownBlock := fun e => (hnew b e.symm).2.1 r g1
      refine ⟨b, g1, g2, Nat.lt_of_lt_of_le g3 hg.size, fun o => by rw [hm', if_neg hnb]; exact g4 o, ?_⟩
      exact (g5.keep (hblk b g3 hne)).mono hle (fun _ _ h => h)
    dom := h.dom
    inj := h.inj
    tok := fun t v e z n ht => by
      obtain ⟨⟨xs, g1⟩, g2⟩ := h.tok t v e z n ht
      refine ⟨⟨xs, ownsRow_keep (fun g hgo hlt => hblk g hlt (fun e => (hrow g e.symm).2.2.1 t v _ _ _ ht hgo)) g1⟩, fun g hgo => ⟨(g2 g hgo).1, fun o ho => ?_, (g2 g hgo).2.2⟩⟩
      rw [hm', if_neg (fun e => (hnew g e.symm).2.2 t v _ _ _ ht hgo)]
      exact (g2 g hgo).2.1 o ho
    tokne := h.tokne
    fresh := h.fresh
    m0 := fun b o u hm hb hmd => by
      rw [hm', if_neg (fun e => by rcases (hnew b e.symm).1 with h1 | h1; omega; exact hmd h1)] at hm
      exact h.m0 b o u hm hb hmd }
  refine ⟨k', hle, hSim.add ht hown (fun g hgo => ⟨(hnew g hgo).1, fun o ho => ?_, (hnew g hgo).2.1⟩) (fun t' v2 e2 z2 n2 h2 g hgo => (hnew g hgo).2.2 t' v2 e2 z2 n2 h2) hf, ?_⟩
  · rw [hm', if_pos hgo.symm]
    rw [List.getElem?_eq_none]
    rw [hown.1]
    exact ho
  · have hlen := hcs.length
    have hk2 := RepL.mono hle.1 _ _ hcs
    simp only [RepX, Rep]
    refine ⟨by simp [Own.add], by rw [← hlen, hown.1], ?_⟩
    rcases hown.2 with ⟨rfl, rfl⟩ | ⟨g, cap, cur, rfl, _, _, hcap, _, _, _⟩
    · have : us = [] := List.eq_nil_of_length_eq_zero (by rw [hown.1]; simp)
      subst this
      exact ⟨none, 0, [], rfl, Nat.le_refl _, hk2, fun h => absurd rfl h⟩
    · refine ⟨some ⟨g, 0, none⟩, cap, us, rfl, hcap, hk2, fun _ => ⟨g, 0, rfl, fun i u hu => ?_⟩⟩
      rw [hm']
      simp only [Value.ownBlock, if_true, Nat.zero_add]
      exact hu
end
end Go.Pe

/-
  An abstract machine for Go code over plain data: a state and the memory that it stands for. Conditions: none.
-/
import Derived.Test.YtiepbejeiijpmaaDoorPe2
namespace Go.Pe
open Go.RowKit

/-- What is given of the program's own tables: a fact on memory that hangs on some blocks alone. -/
structure GP where
  holds : World → Prop
  blk : Nat → Prop
  keep : ∀ w w', holds w → (∀ b, blk b → w'.heap[b]? = w.heap[b]?) → holds w'

/-- What stands fast while a call runs: what is given of tables; what it was told of memory; the blocks that it may write on. -/
structure Base where
  G : GP
  m : Mem
  mod : Nat → Prop

/-- All but some blocks is as it was; there may be more. -/
structure Keeps (M : Nat → Prop) (w w' : World) : Prop where
  os : w'.os = w.os
  tape : w'.tape = w.tape
  output : w'.output = w.output
  size : w.heap.size ≤ w'.heap.size
  block : ∀ b, b < w.heap.size → ¬ M b → w'.heap[b]? = w.heap[b]?

theorem Keeps.refl (M : Nat → Prop) (w : World) : Keeps M w w := ⟨rfl, rfl, rfl, Nat.le_refl _, fun _ _ _ => rfl⟩
theorem Keeps.trans {M : Nat → Prop} {a b c : World} (h : Keeps M a b) (h' : Keeps M b c) : Keeps M a c :=
  ⟨h'.os.trans h.os, h'.tape.trans h.tape, h'.output.trans h.output, Nat.le_trans h.size h'.size, fun x hx hm => (h'.block x (Nat.lt_of_lt_of_le hx h.size) hm).trans (h.block x hx hm)⟩
theorem Keeps.below {M : Nat → Prop} {w w' : World} (h : Below w.heap.size w w') : Keeps M w w' := ⟨h.os, h.tape, h.output, h.size, fun b hb _ => h.block b hb⟩
theorem Keeps.to_below {w w' : World} (h : Keeps (fun _ => False) w w') : Below w.heap.size w w' := ⟨h.os, h.tape, h.output, h.size, fun b hb => h.block b hb id⟩

/-- The call's own blocks. -/
def Mine (M : Nat → Prop) (w0 : World) (b : Nat) : Prop := w0.heap.size ≤ b ∨ M b

/-- What an object of the call's own is in memory: block b. -/
def ObRep (k : Know) (ow : Own) (w : World) (b : Nat) : Ob → Prop
  | .var ty xs => ∃ (vs : List Value), w.heap[b]? = some (.cells vs.toArray ty (0, 0)) ∧ (∀ u ∈ vs, u.oneCell' = true) ∧ RepXs k ow xs vs
  | .map es => ∃ (ms : Array MapEntry) (cl : Nat), w.heap[b]? = some (.map ms cl) ∧ ms.toList.map (·.key) = es.map (·.1) ∧ RepL k.m (es.map (·.2)) (ms.toList.map (·.val))

/-- Objects, rights, and memory: what was there when the call began (w0) is as it was. -/
structure Hp (M0 : Base) (k : Know) (ow : Own) (w0 w : World) (objs : List Ob) : Prop where
  good : M0.G.holds w0 ∧ ∀ b, M0.G.blk b → b < w0.heap.size ∧ ¬ M0.mod b
  below : Keeps M0.mod w0 w
  mem : ∀ b o v, k.m b o = some v → w.cell? ⟨b, o, none⟩ = some v ∧ v.oneCell' = true
  obj : ∀ r ob, objs[r]? = some ob → ∃ b, k.μ r = some b ∧ Mine M0.mod w0 b ∧ b < w.heap.size ∧ (∀ o, k.m b o = none) ∧ ObRep k ow w b ob
  dom : ∀ r b, k.μ r = some b → r < objs.length
  inj : ∀ r r' b, k.μ r = some b → k.μ r' = some b → r = r'
  tok : ∀ t v e z n, ow t = some (v, e, z, n) → (∃ xs, w.ownsRow 0 e z v n xs) ∧ ∀ g, v.ownBlock = some g → Mine M0.mod w0 g ∧ (∀ o, n * z ≤ o → k.m g o = none) ∧ ∀ r, k.μ r ≠ some g
  tokne : ∀ t t' v e z n v' e' z' n', ow t = some (v, e, z, n) → ow t' = some (v', e', z', n') → t ≠ t' → ∀ g, v.ownBlock = some g → v'.ownBlock ≠ some g
  m0 : ∀ b o v, k.m b o = some v → b < w0.heap.size → ¬ M0.mod b → M0.m b o = some v

/-- A right is an old one, or one of these operations'. -/
def Tk.older (clk : Nat) (done : Nat → Prop) : Tk → Prop
  | .nm c ix _ => c < clk ∨ (c = clk ∧ done ix)
  | .cell .. => True

/-- A state, and memory. -/
structure Sim (M0 : Base) (k : Know) (ow : Own) (done : Nat → Prop) (w0 w : World) (N : Nat) (s : S) (tmps : Array Value) : Prop extends Hp M0 k ow w0 w s.objs where
  size : tmps.size = N
  fr : ∀ j, RepX k ow (s.fr j) (tmps.getD j undef)
  fresh : ∀ t p, ow t = some p → t.older s.clk done
  cells : ∀ r off p, ow (.cell r off) = some p → r < s.objs.length

theorem mem_lt {k : Know} {w : World} (h : ∀ b o v, k.m b o = some v → w.cell? ⟨b, o, none⟩ = some v ∧ v.oneCell' = true) {b o : Nat} {v : Value} (hm : k.m b o = some v) : b < w.heap.size :=
  World.block_lt_of_cell? (a := ⟨b, o, none⟩) w (h _ _ _ hm).1

theorem ownsRow_keep {w w' : World} {B e z : Nat} {v : Value} {n : Nat} {xs : List Value} (h : ∀ g, v.ownBlock = some g → g < w.heap.size → w'.heap[g]? = w.heap[g]?) (ho : w.ownsRow B e z v n xs) : w'.ownsRow B e z v n xs := by
  refine ⟨ho.1, ?_⟩
  rcases ho.2 with h2 | ⟨g, cap, cur, hv, hg, hh, r⟩
  · exact .inl h2
  · exact .inr ⟨g, cap, cur, hv, hg, by rw [h g (by rw [hv]; rfl) (Array.getElem?_eq_some_iff.1 hh).1]; exact hh, r⟩

theorem ownsRow_lt {w : World} {B e z : Nat} {v : Value} {n : Nat} {xs : List Value} (ho : w.ownsRow B e z v n xs) {g : Nat} (hg : v.ownBlock = some g) : g < w.heap.size := (ho.lt g hg).2

theorem ObRep.keep {k : Know} {ow : Own} {w w' : World} {b : Nat} {ob : Ob} (hb : w'.heap[b]? = w.heap[b]?) (h : ObRep k ow w b ob) : ObRep k ow w' b ob := by
  cases ob <;> simpa only [ObRep, hb] using h

theorem ObRep.mono {k k' : Know} {ow ow' : Own} {w : World} {b : Nat} {ob : Ob} (hk : k.le k') (ho : ow.sub ow') (h : ObRep k ow w b ob) : ObRep k' ow' w b ob := by
  cases ob with
  | var ty xs =>
    obtain ⟨vs, h1, h2, h3⟩ := h
    exact ⟨vs, h1, h2, RepXs.mono hk ho _ _ h3⟩
  | map es =>
    obtain ⟨ms, cl, h1, h2, h3⟩ := h
    exact ⟨ms, cl, h1, h2, RepL.mono hk.1 _ _ h3⟩

theorem ObRep.tr {σ : Nat → Option Nat} {ρ : Tk → Option Tk} {k k' : Know} {ow ow' : Own} (hn : Ren σ ρ k k' ow ow') {w : World} {b : Nat} {ob : Ob} (h : ObRep k ow w b ob) : ObRep k' ow' w b (ob.tr σ ρ) := by
  cases ob with
  | var ty xs =>
    obtain ⟨vs, h1, h2, h3⟩ := h
    exact ⟨vs, h1, h2, RepXs.tr hn _ _ h3⟩
  | map es =>
    obtain ⟨ms, cl, h1, h2, h3⟩ := h
    exact ⟨ms, cl, h1, h2, RepL.mono hn.m _ _ h3⟩

theorem ObRep.drop {k : Know} {ow : Own} {w : World} {b : Nat} {ob : Ob} (t : Tk) (h : ObRep k ow w b ob) : ObRep k (ow.del t) w b (ob.drop t) := by
  cases ob with
  | var ty xs =>
    obtain ⟨vs, h1, h2, h3⟩ := h
    exact ⟨vs, h1, h2, RepXs.drop t _ _ h3⟩
  | map es => exact h

section
variable {M0 : Base} {k : Know} {ow : Own} {done : Nat → Prop} {w0 w w' : World} {N : Nat} {s : S} {tmps : Array Value} {objs : List Ob}

theorem Hp.lt (h : Hp M0 k ow w0 w objs) {r b : Nat} (hr : k.μ r = some b) : Mine M0.mod w0 b ∧ b < w.heap.size ∧ ∀ o, k.m b o = none := by
  obtain ⟨b', h2, h3, h4, h5, _⟩ := h.obj r _ (List.getElem?_eq_getElem (h.dom r b hr))
  obtain rfl := Option.some.inj (h2.symm.trans hr)
  exact ⟨h3, h4, h5⟩
theorem Hp.tlt (h : Hp M0 k ow w0 w objs) {t : Tk} {v : Value} {e z n : Nat} (ht : ow t = some (v, e, z, n)) {g : Nat} (hg : v.ownBlock = some g) : Mine M0.mod w0 g ∧ g < w.heap.size := by
  obtain ⟨⟨xs, h1⟩, h2⟩ := h.tok t v e z n ht
  exact ⟨(h2 g hg).1, ownsRow_lt h1 hg⟩
/-- What is given of tables holds still. -/
theorem Hp.table (h : Hp M0 k ow w0 w objs) : M0.G.holds w := M0.G.keep w0 w h.good.1 fun b hb => h.below.block b (h.good.2 b hb).1 (h.good.2 b hb).2

/-- Memory that only grows. -/
theorem Hp.grow (h : Hp M0 k ow w0 w objs) (hb : Below w.heap.size w w') : Hp M0 k ow w0 w' objs where
  good := h.good
  below := h.below.trans (.below hb)
  mem := fun b o v hm => by
    obtain ⟨h1, h2⟩ := h.mem b o v hm
    exact ⟨(hb.cell (p := ⟨b, o, none⟩) (mem_lt h.mem hm)).trans h1, h2⟩
  obj := fun r ob hr => by
    obtain ⟨b, h1, h2, h3, h4, h5⟩ := h.obj r ob hr
    exact ⟨b, h1, h2, Nat.lt_of_lt_of_le h3 hb.size, h4, h5.keep (hb.block b h3)⟩
  dom := h.dom
  inj := h.inj
  tok := fun t v e z n ht => by
    obtain ⟨⟨xs, h1⟩, h2⟩ := h.tok t v e z n ht
    exact ⟨⟨xs, ownsRow_keep (fun g _ hg => hb.block g hg) h1⟩, h2⟩
  tokne := h.tokne
  m0 := h.m0
theorem Sim.grow (h : Sim M0 k ow done w0 w N s tmps) (hb : Below w.heap.size w w') : Sim M0 k ow done w0 w' N s tmps :=
  { h.toHp.grow hb with size := h.size, fr := h.fr, fresh := h.fresh, cells := h.cells }

/-- A value laid into a slot. -/
theorem Sim.put (h : Sim M0 k ow done w0 w N s tmps) (d : Option Nat) (hd : ∀ j, d = some j → j < N) {x : X} {v : Value} (hx : RepX k ow x v) :
    Sim M0 k ow done w0 w N (s.put d x) (Act.put ⟨tmps, []⟩ d v).tmps := by
  cases d with
  | none => exact h
  | some d =>
    have hlt := hd d rfl
    refine { h.toHp with size := by simp [Act.put, h.size], fr := fun j => ?_, fresh := h.fresh, cells := h.cells }
    simp only [S.put, upd, Act.put]
    by_cases hj : j = d
    · subst hj
      simp only [if_true]
      have : (tmps.setIfInBounds j v).getD j undef = v := by simp [h.size, hlt]
      rw [this]
      exact hx
    · rw [if_neg hj]
      have : (tmps.setIfInBounds d v).getD j undef = tmps.getD j undef := by
        simp [Array.getElem?_setIfInBounds_ne (Ne.symm hj)]
      rw [this]
      exact h.fr j

/-- A right given up. -/
theorem Sim.del (h : Sim M0 k ow done w0 w N s tmps) (t : Tk) : Sim M0 k (ow.del t) done w0 w N (s.drop (some t)) tmps where
  good := h.good
  size := h.size
  below := h.below
  fr := fun j => RepX.drop t _ _ (h.fr j)
  mem := h.mem
  obj := fun r ob hr => by
    simp only [S.drop, List.getElem?_map, Option.map_eq_some_iff] at hr
    obtain ⟨ob', h1, rfl⟩ := hr
    obtain ⟨b, h2, h3, h4, h5, h6⟩ := h.obj r ob' h1
    exact ⟨b, h2, h3, h4, h5, h6.drop t⟩
  dom := fun r b hr => by simpa [S.drop] using h.dom r b hr
  inj := h.inj
  tok := fun t' v e z n ht => by
    simp only [Own.del] at ht
    split at ht
    · cases ht
    · exact h.tok t' v e z n ht
  tokne := fun t t' v e z n v' e' z' n' ht ht' => by
    simp only [Own.del] at ht ht'
    split at ht
    · cases ht
    · split at ht'
      · cases ht'
      · exact h.tokne t t' v e z n v' e' z' n' ht ht'
  fresh := fun t' p ht => by
    simp only [Own.del] at ht
    split at ht
    · cases ht
    · exact h.fresh t' p ht
  cells := fun r off p ht => by
    simp only [Own.del] at ht
    split at ht
    · cases ht
    · simpa [S.drop] using h.cells r off p ht
  m0 := h.m0

/-- A new right. -/
def Own.add (ow : Own) (t : Tk) (p : Value × Nat × Nat × Nat) : Own := fun t' => if t' = t then some p else ow t'

theorem Own.sub_add {ow : Own} {t : Tk} {p : Value × Nat × Nat × Nat} (h : ow t = none) : ow.sub (ow.add t p) := fun t' q hq => by
  simp only [Own.add]
  split
  · rename_i e; subst e; rw [h] at hq; cases hq
  · exact hq

theorem Sim.add (h : Sim M0 k ow done w0 w N s tmps) {c ix i : Nat} {v : Value} {e z n : Nat} {xs : List Value} (hn : ow (.nm c ix i) = none)
    (hrow : w.ownsRow 0 e z v n xs) (hm : ∀ g, v.ownBlock = some g → Mine M0.mod w0 g ∧ (∀ o, n * z ≤ o → k.m g o = none) ∧ ∀ r, k.μ r ≠ some g)
    (hne : ∀ t' v' e' z' n', ow t' = some (v', e', z', n') → ∀ g, v.ownBlock = some g → v'.ownBlock ≠ some g)
    (hf : c < s.clk ∨ (c = s.clk ∧ done ix)) : Sim M0 k (ow.add (.nm c ix i) (v, e, z, n)) done w0 w N s tmps where
  good := h.good
  size := h.size
  below := h.below
  fr := fun j => RepX.mono (Know.le_refl k) (Own.sub_add hn) _ _ (h.fr j)
  mem := h.mem
  obj := fun r ob hr => by
    obtain ⟨b, h2, h3, h4, h5, h6⟩ := h.obj r ob hr
    exact ⟨b, h2, h3, h4, h5, h6.mono (Know.le_refl k) (Own.sub_add hn)⟩
  dom := h.dom
  inj := h.inj
  tok := fun t' v' e' z' n' ht => by
    simp only [Own.add] at ht
    split at ht
    · simp only [Option.some.injEq, Prod.mk.injEq] at ht
      obtain ⟨rfl, rfl, rfl, rfl⟩ := ht
      exact ⟨⟨xs, hrow⟩, hm⟩
    · exact h.tok t' v' e' z' n' ht
  tokne := fun t1 t2 v1 e1 z1 n1 v2 e2 z2 n2 h1 h2 hne' g hg hg' => by
    simp only [Own.add] at h1 h2
    split at h1
    · rename_i e1'
      simp only [Option.some.injEq, Prod.mk.injEq] at h1
      obtain ⟨rfl, rfl, rfl, rfl⟩ := h1
      split at h2
      · rename_i e2'; exact hne' (e1'.trans e2'.symm)
      · exact hne _ _ _ _ _ h2 g hg hg'
    · split at h2
      · simp only [Option.some.injEq, Prod.mk.injEq] at h2
        obtain ⟨rfl, rfl, rfl, rfl⟩ := h2
        exact hne _ _ _ _ _ h1 g hg' hg
      · exact h.tokne t1 t2 _ _ _ _ _ _ _ _ h1 h2 hne' g hg hg'
  fresh := fun t' p ht => by
    simp only [Own.add] at ht
    split at ht
    · rename_i e1; subst e1; exact hf
    · exact h.fresh t' p ht
  cells := fun r off p ht => by
    simp only [Own.add] at ht
    split at ht
    · rename_i e1; cases e1
    · exact h.cells r off p ht
  m0 := h.m0

theorem Sim.more (h : Sim M0 k ow done w0 w N s tmps) {done' : Nat → Prop} (hd : ∀ i, done i → done' i) : Sim M0 k ow done' w0 w N s tmps :=
  { h.toHp with
    size := h.size
    fr := h.fr
    cells := h.cells
    fresh := fun t p ht => by
      have := h.fresh t p ht
      cases t with
      | nm c ix i => exact this.imp id (fun ⟨a, b⟩ => ⟨a, hd _ b⟩)
      | cell r off => trivial }

/-- A region's end: its names are old. -/
theorem Sim.tick (h : Sim M0 k ow done w0 w N s tmps) : Sim M0 k ow (fun _ => False) w0 w N { s with clk := s.clk + 1 } tmps :=
  { h.toHp with
    size := h.size
    fr := h.fr
    cells := h.cells
    fresh := fun t p ht => by
      have := h.fresh t p ht
      cases t with
      | nm c ix i =>
        refine .inl ?_
        rcases this with h | ⟨h, _⟩ <;> simp only [] <;> omega
      | cell r off => trivial }

/-- An operand. -/
theorem ofVal_rep (k : Know) (ow : Own) (v : Value) : RepX k ow (ofVal v) v := by
  unfold ofVal
  split <;> simp [RepX, Rep, RepL, Value.oneCell']

theorem Sim.ev (h : Sim M0 k ow done w0 w N s tmps) (x : Operand) : RepX k ow (s.ev x) ((⟨tmps, []⟩ : Act).eval x) := by
  cases x with
  | tmp t => exact h.fr t
  | const v => exact ofVal_rep k ow v
  | func f => simp [S.ev, Act.eval, RepX, Rep, RepL]
  | global g => simp [S.ev, RepX, Rep]

/-- Rights under other names: so that no two become one. -/
def Own.re (ρ : Tk → Option Tk) (ow ow' : Own) : Prop :=
  (∀ t p t', ow t = some p → ρ t = some t' → ow' t' = some p) ∧ (∀ t' p, ow' t' = some p → ∃ t, ow t = some p ∧ ρ t = some t')

theorem Sim.tr (h : Sim M0 k ow done w0 w N s tmps) {ρ : Tk → Option Tk} {ow' : Own} (hr : ow.re ρ ow') (hf : ∀ t p, ow' t = some p → t.older s.clk done) (hc : ∀ r off p, ow' (.cell r off) = some p → r < s.objs.length) :
    Sim M0 k ow' done w0 w N (s.tr ρ) tmps :=
  have hn : Ren some ρ k k ow ow' := ⟨fun _ _ _ h => h, fun r b r' hr he => by cases he; exact hr, hr.1⟩
  { good := h.good
    size := h.size
    below := h.below
    fr := fun j => RepX.tr hn _ _ (h.fr j)
    mem := h.mem
    obj := fun r ob hr => by
      simp only [S.tr, List.getElem?_map, Option.map_eq_some_iff] at hr
      obtain ⟨ob', h1, rfl⟩ := hr
      obtain ⟨b, h2, h3, h4, h5, h6⟩ := h.obj r ob' h1
      exact ⟨b, h2, h3, h4, h5, h6.tr hn⟩
    dom := fun r b hr => by simpa [S.tr] using h.dom r b hr
    inj := h.inj
    tok := fun t' v e z n ht => by
      obtain ⟨t, g1, _⟩ := hr.2 _ _ ht
      exact h.tok t v e z n g1
    tokne := fun t t' v e z n v' e' z' n' ht ht' hne => by
      obtain ⟨a, g1, g2⟩ := hr.2 _ _ ht
      obtain ⟨b, g3, g4⟩ := hr.2 _ _ ht'
      exact h.tokne a b v e z n v' e' z' n' g1 g3 (fun e => hne (by subst e; rw [g2] at g4; exact Option.some.inj g4))
    fresh := hf
    cells := fun r off p ht => by simpa [S.tr] using hc r off p ht
    m0 := h.m0 }
end
end Go.Pe

/-
  An abstract machine for Go code over plain data: objects of the call's own; the operations of a region, in the order of the text. Conditions: none.
-/
import Derived.Test.YtiepbejeiijpmaaDoorPe8
namespace Go.Pe
open Go.RowKit

section
variable {P : Program} {M0 : Base} {k : Know} {ow : Own} {done : Nat → Prop} {w0 w : World} {N : Nat} {s : S} {tmps : Array Value}

/-- A new object. -/
theorem Sim.newOb (h : Sim M0 k ow done w0 w N s tmps) {ob : Ob} (o : Obj) (hob : ∀ k' w', k.le k' → w'.heap[w.heap.size]? = some o → ObRep k' ow w' w.heap.size ob) :
    ∃ k', k.le k' ∧ k'.μ s.objs.length = some w.heap.size ∧ Sim M0 k' ow done w0 (w.alloc o) N { s with objs := s.objs ++ [ob] } tmps := by
  let k' : Know := { m := k.m, μ := fun r => if r = s.objs.length then some w.heap.size else k.μ r }
  have hle : k.le k' := ⟨fun _ _ _ h => h, fun r b hr => by
    have := h.dom r b hr
    show (if r = s.objs.length then some w.heap.size else k.μ r) = some b
    rw [if_neg (by omega)]; exact hr⟩
  have hb : Below w.heap.size w (w.alloc o) := (Below.refl _ _).alloc (Nat.le_refl _) _
  have hg := h.grow hb
  refine ⟨k', hle, by simp [k'], ?_⟩
  exact {
    good := hg.good
    size := hg.size
    below := hg.below
    fr := fun j => RepX.mono hle (fun _ _ h => h) _ _ (hg.fr j)
    mem := hg.mem
    obj := fun r ob' hr => by
      by_cases hlast : r = s.objs.length
      · subst hlast
        simp at hr
        subst hr
        refine ⟨w.heap.size, by simp [k'], .inl h.below.size, by simp, fun o' => ?_, hob _ _ hle (heap_alloc_new w _)⟩
        show k.m w.heap.size o' = none
        cases hm : k.m w.heap.size o' with
        | none => rfl
        | some u => have := mem_lt h.mem hm; omega
      · have hr' : s.objs[r]? = some ob' := by
          rcases Nat.lt_or_ge r s.objs.length with g | g
          · rwa [List.getElem?_append_left g] at hr
          · rw [List.getElem?_append_right g] at hr
            have : r - s.objs.length ≠ 0 := by omega
            obtain ⟨q, hq⟩ := Nat.exists_eq_succ_of_ne_zero this
            rw [hq] at hr
            simp at hr
        obtain ⟨b, g1, g2, g3, g4, g5⟩ := hg.obj r ob' hr'
        exact ⟨b, hle.2 _ _ g1, g2, g3, g4, g5.mono hle (fun _ _ h => h)⟩
    dom := fun r b hr => by
      simp only [k'] at hr
      simp only [List.length_append, List.length_singleton]
      split at hr
      · omega
      · have := h.dom r b hr; omega
    inj := fun r r' b hr hr' => by
      simp only [k'] at hr hr'
      split at hr
      · split at hr'
        · omega
        · have := (h.lt hr').2.1
          have := Option.some.inj hr
          omega
      · split at hr'
        · have := (h.lt hr).2.1
          have := Option.some.inj hr'
          omega
        · exact h.inj r r' b hr hr'
    tok := fun t v e z n ht => by
      obtain ⟨g1, g2⟩ := hg.tok t v e z n ht
      refine ⟨g1, fun g hgo => ⟨(g2 g hgo).1, (g2 g hgo).2.1, fun r hr => ?_⟩⟩
      simp only [k'] at hr
      split at hr
      · have := (h.tlt ht hgo).2
        have := Option.some.inj hr
        omega
      · exact (g2 g hgo).2.2 r hr
    tokne := hg.tokne
    fresh := hg.fresh
    cells := fun r off p ht => by
      have := h.cells r off p ht
      simp only [List.length_append, List.length_singleton]
      omega
    m0 := hg.m0 }

theorem Sim.newVar (h : Sim M0 k ow done w0 w N s tmps) {xs : List X} {vs : List Value} (ty : TypeId) (hx : RepXs k ow xs vs) (h1 : ∀ u ∈ vs, u.oneCell' = true) :
    ∃ k', k.le k' ∧ k'.μ s.objs.length = some w.heap.size ∧ Sim M0 k' ow done w0 (w.alloc (.cells vs.toArray ty)) N { s with objs := s.objs ++ [Ob.var ty xs] } tmps :=
  h.newOb _ fun _ _ hle hh => ⟨vs, hh, h1, RepXs.mono hle (fun _ _ h => h) _ _ hx⟩

/-- An object written to. -/
theorem Sim.setOb (h : Sim M0 k ow done w0 w N s tmps) {r b : Nat} {ob : Ob} {w' : World} (hb : k.μ r = some b) (hr : r < s.objs.length) (hbel : w'.os = w.os ∧ w'.tape = w.tape ∧ w'.output = w.output) (hsz : w'.heap.size = w.heap.size)
    (hoth : ∀ c, c ≠ b → w'.heap[c]? = w.heap[c]?) (hob : ObRep k ow w' b ob) : Sim M0 k ow done w0 w' N { s with objs := s.objs.set r ob } tmps := by
  obtain ⟨b', g1, g2, g3, g4, _⟩ := h.obj r _ (List.getElem?_eq_getElem hr)
  obtain rfl : b = b' := Option.some.inj (hb.symm.trans g1)
  exact {
    good := h.good
    size := h.size
    below := ⟨hbel.1.trans h.below.os, hbel.2.1.trans h.below.tape, hbel.2.2.trans h.below.output, by rw [hsz]; exact h.below.size, fun c hc hm => (hoth c (fun e => by
      subst e
      rcases g2 with g2 | g2
      · omega
      · exact hm g2)).trans (h.below.block c hc hm)⟩
    fr := h.fr
    mem := fun c o v hm => by
      obtain ⟨q1, q2⟩ := h.mem c o v hm
      have hne : c ≠ b := by rintro rfl; rw [g4 o] at hm; cases hm
      exact ⟨(World.cell?_of_block (a := ⟨c, o, none⟩) (hoth c hne)).trans q1, q2⟩
    obj := fun r' ob' hr' => by
      by_cases hrr : r' = r
      · subst hrr
        rw [List.getElem?_set_self hr] at hr'
        simp only [Option.some.injEq] at hr'
        subst hr'
        exact ⟨b, hb, g2, by rw [hsz]; exact g3, g4, hob⟩
      · rw [List.getElem?_set_ne (Ne.symm hrr)] at hr'
        obtain ⟨c, q1, q2, q3, q4, q5⟩ := h.obj r' ob' hr'
        have hne : c ≠ b := fun e => hrr (h.inj r' r c q1 (by rw [e]; exact hb))
        exact ⟨c, q1, q2, by rw [hsz]; exact q3, q4, q5.keep (hoth c hne)⟩
    dom := fun r' c hr' => by simpa using h.dom r' c hr'
    inj := h.inj
    tok := fun t v e z n ht => by
      obtain ⟨⟨xs, q1⟩, q2⟩ := h.tok t v e z n ht
      exact ⟨⟨xs, ownsRow_keep (fun g hg _ => hoth g (fun e => (q2 g hg).2.2 r (by rw [e]; exact hb))) q1⟩, q2⟩
    tokne := h.tokne
    fresh := h.fresh
    cells := fun r' off p ht => by simpa using h.cells r' off p ht
    m0 := h.m0 }

theorem Sim.setVar (h : Sim M0 k ow done w0 w N s tmps) {r b : Nat} {ys : List X} {vs : List Value} (hb : k.μ r = some b) {old : Array Value} {ty : TypeId} (hh : w.heap[b]? = some (.cells old ty (0, 0)))
    (hr : r < s.objs.length) (hx : RepXs k ow ys vs) (h1 : ∀ u ∈ vs, u.oneCell' = true) :
    Sim M0 k ow done w0 (w.setRow b vs.toArray) N { s with objs := s.objs.set r (Ob.var ty ys) } tmps := by
  obtain ⟨b', g1, g2, _⟩ := h.obj r _ (List.getElem?_eq_getElem hr)
  obtain rfl : b = b' := Option.some.inj (hb.symm.trans g1)
  have hsz : (w.setRow b vs.toArray).heap.size = w.heap.size := by simp [World.setRow]
  have hoth : ∀ c, c ≠ b → (w.setRow b vs.toArray).heap[c]? = w.heap[c]? := fun c hc => setRow_other w b c _ hc
  exact h.setOb hb hr ⟨rfl, rfl, rfl⟩ hsz hoth ⟨vs, setRow_heap w b old _ ty _ hh, h1, hx⟩

/-- A map written to. -/
theorem Sim.setMap (h : Sim M0 k ow done w0 w N s tmps) {r b cl cl' : Nat} {es : List (Value × C)} {ms ms' : Array MapEntry} (hb : k.μ r = some b) (hh : w.heap[b]? = some (.map ms cl)) (hr : r < s.objs.length)
    (hk : ms'.toList.map (·.key) = es.map (·.1)) (hv : RepL k.m (es.map (·.2)) (ms'.toList.map (·.val))) :
    Sim M0 k ow done w0 { w with heap := w.heap.setIfInBounds b (.map ms' cl') } N { s with objs := s.objs.set r (Ob.map es) } tmps := by
  obtain ⟨b', g1, g2, _⟩ := h.obj r _ (List.getElem?_eq_getElem hr)
  obtain rfl : b = b' := Option.some.inj (hb.symm.trans g1)
  have hlt : b < w.heap.size := (Array.getElem?_eq_some_iff.1 hh).1
  have hoth : ∀ c, c ≠ b → (w.heap.setIfInBounds b (.map ms' cl'))[c]? = w.heap[c]? := fun c hc => Array.getElem?_setIfInBounds_ne (Ne.symm hc)
  exact h.setOb hb hr ⟨rfl, rfl, rfl⟩ (by simp) hoth ⟨ms', cl', by simp [hlt], hk, hv⟩

theorem setRow_size (w : World) (b : Nat) (c : Array Value) : (w.setRow b c).heap.size = w.heap.size := by simp [World.setRow]

theorem calls_callable {f : Nat} {o : Oper} {args : Array Operand} {tys : Array Nat} {a : Act} (ho : o.op = .call { callee := .value (.func f), args := args, argTypes := tys }) (hc : callable P f = true) (w : World) :
    (execOp a.eval o).run P w = .ok (.enter f (args.map fun x => a.eval x)) w := by
  unfold callable at hc
  split at hc
  · rename_i fn hfn
    simp only [Bool.and_eq_true, Bool.not_eq_true', Option.isSome_iff_exists] at hc
    obtain ⟨⟨b, hb⟩, hn⟩ := hc
    have hn' : ¬ fn.name = "runtime.NumGoroutine" := by simpa using hn
    simp [execOp, ho, resolve, Act.eval, Deferred.ofValue, invoke, callFunc, hfn, hn', hb]
  · cases hc

structure EnSound (P : Program) (G : GP) (E : En) : Prop where
  orc : ∀ f xs obs an, E.orc f xs obs = some an → Sound P G f xs obs an

theorem evs_rep (hs : Sim M0 k ow done w0 w N s tmps) : ∀ l : List Operand, RepXs k ow (l.map s.ev) (l.map fun x => (⟨tmps, []⟩ : Act).eval x)
  | [] => by simp [RepXs]
  | x :: l => by simp only [List.map_cons, RepXs]; exact ⟨_, _, rfl, hs.ev x, evs_rep hs l⟩

/-! ### Rights that go over to cells -/
open Classical in
/-- Rights under other names. -/
noncomputable def Own.img (ρ : Tk → Option Tk) (ow : Own) : Own := fun t' => if h : ∃ t p, ow t = some p ∧ ρ t = some t' then some h.choose_spec.choose else none
theorem Own.img_re {ρ : Tk → Option Tk} {ow : Own} (hi : ∀ t u t' , (ow t).isSome → (ow u).isSome → ρ t = some t' → ρ u = some t' → t = u) : ow.re ρ (ow.img ρ) := by
  refine ⟨fun t p t' ht hr => ?_, fun t' p h => ?_⟩
  · have hex : ∃ t p, ow t = some p ∧ ρ t = some t' := ⟨t, p, ht, hr⟩
    unfold Own.img
    rw [dif_pos hex]
    have h2 := hex.choose_spec.choose_spec
    have : hex.choose = t := hi _ _ t' (by rw [h2.1]; rfl) (by rw [ht]; rfl) h2.2 hr
    exact ((congrArg ow this).symm.trans h2.1).symm.trans ht
  · unfold Own.img at h
    split at h
    · rename_i hex
      simp only [Option.some.injEq] at h
      subst h
      exact ⟨_, hex.choose_spec.choose_spec.1, hex.choose_spec.choose_spec.2⟩
    · cases h

theorem cellTks_spec (r : Nat) : ∀ (off : Nat) (xs : List X) (t c : Tk), assoc (cellTks r off xs) t = some c → ∃ o, c = .cell r o ∧ off ≤ o ∧ o < off + xs.length
  | off, [], t, c, h => by simp [cellTks, assoc] at h
  | off, x :: xs, t, c, h => by
    have ih := cellTks_spec r (off + 1) xs t c
    have rest : assoc (cellTks r (off + 1) xs) t = some c → ∃ o, c = .cell r o ∧ off ≤ o ∧ o < off + (x :: xs).length := fun h => by
      obtain ⟨o, h1, h2, h3⟩ := ih h
      exact ⟨o, h1, by omega, by simp only [List.length_cons]; omega⟩
    cases x with
    | own t0 e z cs n =>
      simp only [cellTks, assoc] at h
      split at h
      · simp only [Option.some.injEq] at h
        exact ⟨off, h.symm, Nat.le_refl _, by simp⟩
      · exact rest h
    | _ => simp only [cellTks] at h; exact rest h

theorem cellTks_inj (r : Nat) : ∀ (off : Nat) (xs : List X) (t u c : Tk), assoc (cellTks r off xs) t = some c → assoc (cellTks r off xs) u = some c → t = u
  | off, [], t, u, c, h, _ => by simp [cellTks, assoc] at h
  | off, x :: xs, t, u, c, h, h' => by
    have ih := cellTks_inj r (off + 1) xs t u c
    cases x with
    | own t0 e z cs n =>
      simp only [cellTks, assoc] at h h'
      split at h
      · rename_i e1
        simp only [Option.some.injEq] at h
        split at h'
        · rename_i e2; exact e1.symm.trans e2
        · obtain ⟨o, h1, h2, _⟩ := cellTks_spec r (off + 1) xs u c h'
          rw [← h] at h1
          cases h1
          omega
      · split at h'
        · simp only [Option.some.injEq] at h'
          obtain ⟨o, h1, h2, _⟩ := cellTks_spec r (off + 1) xs t c h
          rw [← h'] at h1
          cases h1
          omega
        · exact ih h h'
    | _ => simp only [cellTks] at h h'; exact ih h h'

theorem moveTk_inj {r off n : Nat} {xs : List X} (hn : xs.length = n) {t u t' : Tk} (h : moveTk r off n (cellTks r off xs) t = some t') (h' : moveTk r off n (cellTks r off xs) u = some t') : t = u := by
  have key : ∀ t u : Tk, assoc (cellTks r off xs) t = some t' → assoc (cellTks r off xs) u = none → (match u with
      | .cell r' o' => if r' = r ∧ off ≤ o' ∧ o' < off + n then none else some u
      | .nm .. => some u) = some t' → False := by
    intro t u h1 _ h2
    obtain ⟨o, rfl, h3, h4⟩ := cellTks_spec r off xs t t' h1
    cases u with
    | nm c ix i => cases h2
    | cell r' o' =>
      simp only at h2
      split at h2
      · cases h2
      · rename_i hno
        simp only [Option.some.injEq, Tk.cell.injEq] at h2
        exact hno ⟨h2.1, by omega, by omega⟩
  have key2 : ∀ u : Tk, (match u with
      | .cell r' o' => if r' = r ∧ off ≤ o' ∧ o' < off + n then none else some u
      | .nm .. => some u) = some t' → u = t' := by
    intro u h2
    cases u with
    | nm c ix i => exact Option.some.inj h2
    | cell r' o' =>
      simp only at h2
      split at h2
      · cases h2
      · exact Option.some.inj h2
  unfold moveTk at h h'
  split at h
  · rename_i c h1
    simp only [Option.some.injEq] at h
    subst h
    split at h'
    · rename_i c' h1'
      simp only [Option.some.injEq] at h'
      subst h'
      exact cellTks_inj r off xs t u _ h1 h1'
    · rename_i h1'
      exact (key t u h1 h1' h').elim
  · rename_i h1
    split at h'
    · rename_i c' h1'
      simp only [Option.some.injEq] at h'
      subst h'
      exact (key u t h1' h1 h).elim
    · exact (key2 t h).trans (key2 u h').symm

theorem Sim.lay (h : Sim M0 k ow done w0 w N s tmps) {r off : Nat} {xs ys : List X} (hr : r < s.objs.length) : ∃ ow', Sim M0 k ow' done w0 w N (layS r off xs ys s) tmps := by
  unfold layS
  split
  · exact ⟨ow, h⟩
  · have hre : ow.re (moveTk r off xs.length (cellTks r off xs)) (ow.img (moveTk r off xs.length (cellTks r off xs))) := Own.img_re fun t u t' _ _ h1 h2 => moveTk_inj rfl h1 h2
    have hcase : ∀ t t', moveTk r off xs.length (cellTks r off xs) t = some t' → (∃ o, t' = .cell r o) ∨ t' = t := by
      intro t t' h1
      unfold moveTk at h1
      split at h1
      · rename_i c h2
        simp only [Option.some.injEq] at h1
        subst h1
        obtain ⟨o, h3, _⟩ := cellTks_spec r off xs t _ h2
        exact .inl ⟨o, h3⟩
      · cases t with
        | nm c ix i => exact .inr (Option.some.inj h1).symm
        | cell r' o' =>
          simp only at h1
          split at h1
          · cases h1
          · exact .inr (Option.some.inj h1).symm
    refine ⟨_, h.tr hre (fun t' p ht => ?_) (fun r' o' p ht => ?_)⟩
    · obtain ⟨t, g1, g2⟩ := hre.2 _ _ ht
      rcases hcase t t' g2 with ⟨o, rfl⟩ | rfl
      · trivial
      · exact h.fresh _ _ g1
    · obtain ⟨t, g1, g2⟩ := hre.2 _ _ ht
      rcases hcase t _ g2 with ⟨o, e⟩ | e
      · cases e; exact hr
      · subst e; exact h.cells _ _ _ g1

theorem lay_clk (r off : Nat) (xs ys : List X) (s : S) : (layS r off xs ys s).clk = s.clk := by
  unfold layS
  split <;> rfl

theorem RepL.set {m : Mem} : ∀ {cs : List C} {vs : List Value} (i : Nat) {c : C} {v : Value}, RepL m cs vs → Rep m c v → RepL m (cs.set i c) (vs.set i v)
  | [], vs, i, c, v, h, _ => by simp only [RepL] at h; subst h; simp [RepL]
  | d :: cs, vs, 0, c, v, h, hc => by
    simp only [RepL] at h
    obtain ⟨u, r, rfl, _, h2⟩ := h
    simp only [List.set_cons_zero, RepL]
    exact ⟨v, r, rfl, hc, h2⟩
  | d :: cs, vs, i + 1, c, v, h, hc => by
    simp only [RepL] at h
    obtain ⟨u, r, rfl, h1, h2⟩ := h
    simp only [List.set_cons_succ, RepL]
    exact ⟨u, r.set i v, rfl, h1, RepL.set i h2 hc⟩
theorem RepL.erase {m : Mem} : ∀ {cs : List C} {vs : List Value} (i : Nat), RepL m cs vs → RepL m (cs.eraseIdx i) (vs.eraseIdx i)
  | [], vs, i, h => by simp only [RepL] at h; subst h; simp [RepL]
  | d :: cs, vs, 0, h => by
    simp only [RepL] at h
    obtain ⟨u, r, rfl, _, h2⟩ := h
    simpa using h2
  | d :: cs, vs, i + 1, h => by
    simp only [RepL] at h
    obtain ⟨u, r, rfl, h1, h2⟩ := h
    simp only [List.eraseIdx_cons_succ, RepL]
    exact ⟨u, r.eraseIdx i, rfl, h1, RepL.erase i h2⟩

theorem map_eraseIdx' {α β : Type} (f : α → β) : ∀ (l : List α) (i : Nat), (l.eraseIdx i).map f = (l.map f).eraseIdx i
  | [], _ => by simp
  | a :: l, 0 => by simp
  | a :: l, i + 1 => by simp [map_eraseIdx' f l i]

theorem findX_at (kind : TypeDesc) (k : Value) : ∀ (es : List (Value × C)) (i j : Nat), findX kind k es i = some (some j) → i ≤ j ∧ ∃ p, es[j - i]? = some p ∧ Instr.sameNow kind k p.1 = some true
  | [], i, j, h => by simp [findX] at h
  | e :: es, i, j, h => by
    simp only [findX] at h
    split at h
    · rename_i hsn
      simp only [Option.some.injEq] at h
      subst h
      exact ⟨Nat.le_refl _, e, by simp, hsn⟩
    · obtain ⟨h1, p, h2, h3⟩ := findX_at kind k es (i + 1) j h
      refine ⟨by omega, p, ?_, h3⟩
      obtain ⟨q, rfl⟩ : ∃ q, j = i + 1 + q := ⟨j - (i + 1), by omega⟩
      have e1 : i + 1 + q - i = q + 1 := by omega
      have e2 : i + 1 + q - (i + 1) = q := by omega
      rw [e1]
      rw [e2] at h2
      simpa using h2
    · cases h

theorem sameNow_stays {kind : TypeDesc} {a b : Value} (h : Instr.sameNow kind a b = some true) : b = a ∧ (Instr.keyThatStays b a).run P w = .ok a w := by
  unfold Instr.sameNow at h
  split at h
  · rename_i kk a k' b
    split at h
    · rename_i hk
      simp only [Option.some.injEq, beq_iff_eq] at h
      subst hk; subst h
      exact ⟨rfl, by simp [Instr.keyThatStays, Instr.sameBits]⟩
    · cases h
  · rename_i a b
    simp only [Option.some.injEq] at h
    have : a = b := (MapKept.bytes_beq a b).1 h
    subst this
    exact ⟨rfl, by simp [Instr.keyThatStays, Instr.sameBits, h]⟩
  · rename_i a b
    simp only [Option.some.injEq, beq_iff_eq] at h
    subst h
    exact ⟨rfl, by simp [Instr.keyThatStays, Instr.sameBits]⟩
  · cases h

theorem mapUpdate_sound (hs : Sim M0 k ow done w0 w N s tmps) {t et r : Nat} {kind : TypeDesc} {kv vm vk vx : Value} {c : C} {es es' : List (Value × C)} (hty : mapTy (TT.of P) t = some (kind, et)) (hm : RepX k ow (.mp r) vm) (hk : vk = kv) (hc : Rep k.m c vx)
    (hr : s.objs[r]? = some (.map es)) (hput : putX kind kv c es = some es') : ∃ w', (Instr.mapUpdate t vm vk vx).run P w = .ok () w' ∧ Sim M0 k ow done w0 w' N { s with objs := s.objs.set r (Ob.map es') } tmps := by
  subst hk
  obtain ⟨d, kt, d', hT, hu, hT', hu', hkk⟩ := mapTy_inv hty
  have r1 := (TT.of_ok hT).run_und w
  have r2 := (TT.of_ok hT').run_und w
  rw [hu] at r1
  rw [hu'] at r2
  simp only [RepX] at hm
  obtain ⟨b, hb, rfl⟩ := hm
  obtain ⟨b', g1, _, g3, _, ms, cl, hh, hk1, hk2⟩ := hs.obj r _ hr
  obtain rfl : b = b' := Option.some.inj (hb.symm.trans g1)
  have hrl : r < s.objs.length := hs.dom r b hb
  unfold putX at hput
  split at hput
  · rename_i i hfind
    simp only [Option.some.injEq] at hput
    subst hput
    obtain ⟨f1, _⟩ := findNow_of kind vk ms.toList es 0 _ hk1 hfind
    obtain ⟨_, e', he, hnow⟩ := f1 i rfl
    obtain ⟨_, p, hp, hsn⟩ := findX_at kind vk es 0 i hfind
    simp only [Nat.sub_zero] at he hp
    have hke : e'.key = p.1 := by
      have := congrArg (fun l => l[i]?) hk1
      simp only [List.getElem?_map, he, hp, Option.map_some, Option.some.injEq] at this
      exact this
    obtain ⟨hpk, hst⟩ := sameNow_stays (P := P) (w := w) hsn
    have he2 : ms[i]? = some e' := by simpa using he
    refine ⟨_, ?_, hs.setMap (ms' := ms.modify i fun e => { e with key := vk, val := vx }) (cl' := cl) hb hh hrl ?_ ?_⟩
    · simp only [Instr.mapUpdate, Sem.run_bind, r1, Result.andThen_ok, MapKept.run_getObj_map hh, run_checkKey r2 hkk]
      rw [run_findKey r2 hnow]
      simp only [Result.andThen_ok, he2, Option.map_some, Option.getD_some, Sem.run_bind]
      rw [hke, hst]
      simp only [Result.andThen_ok]
      exact MapKept.run_setObj_map _ hh
    · rw [Array.toList_modify]
      apply List.ext_getElem?
      intro j
      have := congrArg (fun l => l[j]?) hk1
      simp only [List.getElem?_map] at this
      simp only [List.getElem?_map, List.getElem?_modify, List.getElem?_set]
      by_cases hij : i = j
      · subst hij
        have hlt : i < es.length := (List.getElem?_eq_some_iff.1 hp).1
        simp [he2, hlt]
      · simp [hij]
        simpa using this
    · rw [Array.toList_modify]
      have e1 : (es.set i (vk, c)).map (·.2) = (es.map (·.2)).set i c := by rw [List.map_set]
      have e2 : (ms.toList.modify i fun e => { e with key := vk, val := vx }).map (·.val) = (ms.toList.map (·.val)).set i vx := by
        apply List.ext_getElem?
        intro j
        simp only [List.getElem?_map, List.getElem?_modify, List.getElem?_set]
        by_cases hij : i = j
        · subst hij
          have hlt : i < ms.toList.length := (List.getElem?_eq_some_iff.1 he).1
          have hlt' : i < ms.size := by simpa using hlt
          simp [he2, hlt']
        · simp [hij]
      rw [e1, e2]
      exact hk2.set i hc
  · rename_i hfind
    simp only [Option.some.injEq] at hput
    subst hput
    obtain ⟨_, f2⟩ := findNow_of kind vk ms.toList es 0 _ hk1 hfind
    refine ⟨_, ?_, hs.setMap (ms' := ms.push { key := vk, val := vx, born := cl }) (cl' := cl + 1) hb hh hrl ?_ ?_⟩
    · simp only [Instr.mapUpdate, Sem.run_bind, r1, Result.andThen_ok, MapKept.run_getObj_map hh, run_checkKey r2 hkk]
      rw [run_findKey r2 (f2 rfl)]
      simp only [Result.andThen_ok]
      exact MapKept.run_setObj_map _ hh
    · simp only [Array.toList_push, List.map_append, hk1]
      rfl
    · simp only [Array.toList_push, List.map_append]
      exact hk2.append (by simp [RepL, hc])
  · cases hput

theorem delete_sound (hs : Sim M0 k ow done w0 w N s tmps) {t t2 et r ty : Nat} {kind : TypeDesc} {kv vm vk : Value} {es es' : List (Value × C)} (hty : mapTy (TT.of P) t = some (kind, et)) (hm : RepX k ow (.mp r) vm) (hk : vk = kv)
    (hr : s.objs[r]? = some (.map es)) (hput : delX kind kv es = some es') : ∃ w', (Builtin.delete_ #[t, t2] ty #[vm, vk]).run P w = .ok (.tuple #[]) w' ∧ Sim M0 k ow done w0 w' N { s with objs := s.objs.set r (Ob.map es') } tmps := by
  subst hk
  obtain ⟨d, kt, d', hT, hu, hT', hu', hkk⟩ := mapTy_inv hty
  have r1 := (TT.of_ok hT).run_und w
  have r2 := (TT.of_ok hT').run_und w
  rw [hu] at r1
  rw [hu'] at r2
  simp only [RepX] at hm
  obtain ⟨b, hb, rfl⟩ := hm
  obtain ⟨b', g1, _, g3, _, ms, cl, hh, hk1, hk2⟩ := hs.obj r _ hr
  obtain rfl : b = b' := Option.some.inj (hb.symm.trans g1)
  have hrl : r < s.objs.length := hs.dom r b hb
  unfold delX at hput
  split at hput
  · rename_i i hfind
    simp only [Option.some.injEq] at hput
    subst hput
    obtain ⟨f1, _⟩ := findNow_of kind vk ms.toList es 0 _ hk1 hfind
    obtain ⟨_, e', he, hnow⟩ := f1 i rfl
    simp only [Nat.sub_zero] at he
    have hlt : i < ms.size := by simpa using (List.getElem?_eq_some_iff.1 he).1
    refine ⟨_, ?_, hs.setMap (ms' := ms.eraseIdxIfInBounds i) (cl' := cl) hb hh hrl ?_ ?_⟩
    · simp only [Builtin.delete_, List.getElem?_toArray, List.getElem?_cons_zero, List.getElem?_cons_succ, Sem.run_bind, r1, Result.andThen_ok, MapKept.run_getObj_map hh, run_checkKey r2 hkk]
      rw [run_findKey r2 hnow]
      simp only [Result.andThen_ok]
      rw [Sem.run_bind, MapKept.run_setObj_map _ hh]
      rfl
    · simp only [Array.eraseIdxIfInBounds, hlt, dif_pos, Array.toList_eraseIdx, map_eraseIdx', hk1]
    · simp only [Array.eraseIdxIfInBounds, hlt, dif_pos, Array.toList_eraseIdx, map_eraseIdx']
      exact hk2.erase i
  · rename_i hfind
    simp only [Option.some.injEq] at hput
    subst hput
    obtain ⟨_, f2⟩ := findNow_of kind vk ms.toList es 0 _ hk1 hfind
    refine ⟨_, ?_, hs.setMap (ms' := ms) (cl' := cl) hb hh hrl hk1 hk2⟩
    · simp only [Builtin.delete_, List.getElem?_toArray, List.getElem?_cons_zero, List.getElem?_cons_succ, Sem.run_bind, r1, Result.andThen_ok, MapKept.run_getObj_map hh, run_checkKey r2 hkk]
      rw [run_findKey r2 (f2 rfl)]
      simp only [Result.andThen_ok]
      rw [Sem.run_bind, MapKept.run_setObj_map _ hh]
      rfl
  · cases hput

/-- A call that takes or gives objects. -/
theorem callS_sound (hs : Sim M0 k ow done w0 w N s tmps) {E : En} (horc : EnSound P M0.G E) {ix : Nat} (hd : ¬ done ix) {d : Option Nat} (hdst : ∀ j, d = some j → j < N) {f : Nat} {us : List X} {vs : List Value} {e : Option X} {s' : S}
    (hus : RepXs k ow us vs) (h : callS P E s ix d f us = some (e, s')) : callable P f = true ∧ Calls P f vs.toArray w fun en w' => ∃ k' ow', k.le k' ∧
      ((e = none ∧ ∃ v, en = .returned v ∧ Sim M0 k' ow' (fun j => done j ∨ j = ix) w0 w' N s' (Act.put ⟨tmps, []⟩ d v).tmps) ∨
       (∃ x v, e = some x ∧ en = .panicked [{ v := v, recovered := false }] ∧ RepX k' ow' x v ∧ Sim M0 k' ow' (fun j => done j ∨ j = ix) w0 w' N s' tmps)) := by
  unfold callS at h
  split at h
  rotate_left
  · cases h
  rename_i hc
  refine ⟨hc, ?_⟩
  simp only at h
  split at h
  rotate_left
  · cases h
  rename_i obs hobs
  split at h
  rotate_left
  · cases h
  rename_i an hor
  have hnd1 := reach_nodup s.objs 999 (X.refsL us) [] List.nodup_nil
  have hnd2 : (if E.tk f = true then nub (X.toksL us) [] else []).Nodup := by
    split
    · exact nub_nodup _ _ List.nodup_nil
    · exact List.nodup_nil
  refine (call_core hs hnd1 hnd2 hobs (horc.orc _ _ _ _ hor) hc (RepXs.tr ren_in _ _ hus) hd).mono fun en w' ⟨us', kn, own, h1, h2, h3, h4, h5⟩ => ?_
  refine ⟨kn, own, h2, ?_⟩
  unfold backS at h
  simp only at h
  rw [if_pos h3] at h
  obtain ⟨pan, rs, obs'⟩ := an
  cases pan with
  | true =>
    simp only [EndsAs] at h1
    obtain ⟨u, rfl, rfl⟩ := h1
    match rs, h, h5 with
    | [x], h, h5 =>
      simp only [Option.some.injEq, Prod.mk.injEq] at h
      obtain ⟨rfl, rfl⟩ := h
      simp only [X.trs, RepXs] at h5
      obtain ⟨v, r, hv, hx, rfl⟩ := h5
      cases hv
      exact .inr ⟨_, _, rfl, rfl, hx, h4⟩
    | [], h, _ => cases h
    | _ :: _ :: _, h, _ => cases h
  | false =>
    simp only [EndsAs] at h1
    subst h1
    simp only [Option.some.injEq, Prod.mk.injEq] at h
    obtain ⟨rfl, rfl⟩ := h
    exact .inl ⟨rfl, _, rfl, h4.put d hdst (oneX_rep h5)⟩

theorem evs_rep' (hs : Sim M0 k ow done w0 w N s tmps) (l : List Operand) {caps : List X} {cvs : List Value} (hc : RepXs k ow caps cvs) : RepXs k ow (l.map s.ev ++ caps) ((l.map fun x => (⟨tmps, []⟩ : Act).eval x) ++ cvs) := (evs_rep hs l).append hc

/-- An operation that turns no object. -/
theorem stepV_sound (hs : Sim M0 k ow done w0 w N s tmps) {E : En} (horc : EnSound P M0.G E) {ix : Nat} (hd : ¬ done ix) {o : Oper} {e : Option X} {s' : S} (hdst : dstOk N o = true)
    (h : stepV P (TT.of P) E s ix o = some (e, s')) {K : Act → World → Prop} {Q : Exit → Act → World → Prop}
    (hK : e = none → ∀ tmps' w' k' ow', k.le k' → Sim M0 k' ow' (fun j => done j ∨ j = ix) w0 w' N s' tmps' → K ⟨tmps', []⟩ w') : o.wp P ⟨tmps, []⟩ w K Q := by
  have hdst' : ∀ j, o.dst = some j → j < N := fun j hj => by
    unfold dstOk at hdst
    rw [hj] at hdst
    simpa using hdst
  have hput : ∀ u, (⟨tmps, []⟩ : Act).put o.dst u = ⟨((⟨tmps, []⟩ : Act).put o.dst u).tmps, []⟩ := fun u => by
    cases o.dst <;> rfl
  unfold stepV at h
  split at h
  · rename_i x t hv
    split at h
    · simp only [Option.some.injEq, Prod.mk.injEq] at h
      obtain ⟨rfl, rfl⟩ := h
      refine val_sound hs horc.orc hd hv fun u w' k' ow' g1 g2 g3 => ?_
      rw [hput]
      exact hK rfl _ _ k' ow' g1 (g2.put o.dst hdst' g3)
    · cases h
  · cases h

/-- One operation. -/
theorem step_sound (hs : Sim M0 k ow done w0 w N s tmps) {E : En} (horc : EnSound P M0.G E) {dr : Bool} {ix : Nat} (hd : ¬ done ix) {o : Oper} {e : Option X} {s' : S} (hdst : dstOk N o = true)
    (h : step P (TT.of P) E dr s ix o = some (e, s')) {K : Act → World → Prop} {Q : Exit → Act → World → Prop}
    (hK : e = none → ∀ tmps' w' k' ow', k.le k' → Sim M0 k' ow' (fun j => done j ∨ j = ix) w0 w' N s' tmps' → K ⟨tmps', []⟩ w')
    (hP : ∀ x, e = some x → ∀ v w' k' ow', k.le k' → Sim M0 k' ow' (fun j => done j ∨ j = ix) w0 w' N s' tmps → RepX k' ow' x v → Q (.panic [{ v := v, recovered := false }]) ⟨tmps, []⟩ w') : o.wp P ⟨tmps, []⟩ w K Q := by
  have hdst' : ∀ j, o.dst = some j → j < N := fun j hj => by
    unfold dstOk at hdst
    rw [hj] at hdst
    simpa using hdst
  have hput : ∀ u, (⟨tmps, []⟩ : Act).put o.dst u = ⟨((⟨tmps, []⟩ : Act).put o.dst u).tmps, []⟩ := fun u => by
    cases o.dst <;> rfl
  have hs1 := hs.more (done' := fun j => done j ∨ j = ix) (fun _ h => .inl h)
  unfold step at h
  split at h
  · exact stepV_sound hs horc hd hdst h hK
  split at h
  · -- alloc
    rename_i t ho
    split at h
    · rename_i d hT
      simp only [Option.some.injEq, Prod.mk.injEq] at h
      obtain ⟨rfl, rfl⟩ := h
      have ok := TT.of_ok hT
      obtain ⟨z, hz, hz2⟩ := ok.run_zero w
      obtain ⟨k', g1, g2, g3⟩ := hs1.newVar (xs := zeroX d) (vs := d.zero) t (zeroX_rep d.zero) ok.one
      obtain ⟨ow', g4⟩ := g3.lay (r := s.objs.length) (off := 0) (xs := zeroX d) (ys := []) (by simp)
      refine wp_value (u := .pointer (some ⟨w.heap.size, 0, none⟩)) (w' := w.alloc (.cells d.zero.toArray t)) ?_ ?_
      · simp [execOp, ho, Instr.alloc, hz, newVar, newRow, ← hz2]
      · rw [hput]
        exact hK rfl _ _ k' ow' g1 (g4.put o.dst hdst' (by simp only [RepX]; exact ⟨_, g2, rfl⟩))
    · cases h
  · -- box
    rename_i t x ho
    split at h
    · rename_i d xs hT hx
      split at h
      · simp only [Option.some.injEq, Prod.mk.injEq] at h
        obtain ⟨rfl, rfl⟩ := h
        obtain ⟨hl, h1⟩ := repX_cells hx (hs.ev x)
        obtain ⟨k', g1, g2, g3⟩ := hs1.newVar t hl h1
        obtain ⟨ow', g4⟩ := g3.lay (r := s.objs.length) (off := 0) (xs := xs) (ys := []) (by simp)
        refine wp_value (u := .pointer (some ⟨w.heap.size, 0, none⟩)) (w' := w.alloc (.cells ((⟨tmps, []⟩ : Act).eval x).cells.toList.toArray t)) ?_ ?_
        · simp [execOp, ho, Instr.box, newVar, newRow]
        · rw [hput]
          exact hK rfl _ _ k' ow' g1 (g4.put o.dst hdst' (by simp only [RepX]; exact ⟨_, g2, rfl⟩))
      · cases h
    · cases h
  · -- store
    rename_i t a x ho
    split at h
    · rename_i d r off xs hT ha hx
      simp only [Option.map_eq_some_iff, Prod.mk.injEq] at h
      obtain ⟨s2, h, rfl, rfl⟩ := h
      unfold storeS at h
      split at h
      · rename_i ty ys hr
        split at h
        · rename_i hc
          simp only [Option.some.injEq] at h
          subst h
          obtain ⟨hl, h1⟩ := repX_cells hx (hs.ev x)
          have hav := hs.ev a
          rw [ha] at hav
          simp only [RepX] at hav
          obtain ⟨b, hb, hav⟩ := hav
          obtain ⟨b', g1, g2, g3, g4, vs, hh, hone, hvs⟩ := hs.obj r _ hr
          obtain rfl : b = b' := Option.some.inj (hb.symm.trans g1)
          have hrl : r < s.objs.length := hs.dom r b hb
          have ok := TT.of_ok hT
          have hlen := hl.length
          have hvl := hvs.length
          have hfit : off + 0 + ((⟨tmps, []⟩ : Act).eval x).cells.toList.length ≤ vs.toArray.size := by
            simp only [List.size_toArray]
            omega
          have hrun := run_storeCells_at P b off ty ((⟨tmps, []⟩ : Act).eval x).cells.toList 0 vs.toArray w hh hfit h1
          have hsz : ((⟨tmps, []⟩ : Act).eval x).cells.size = d.size := by
            have : ((⟨tmps, []⟩ : Act).eval x).cells.toList.length = d.size := by omega
            simpa using this
          have hset := hs1.setVar (ys := ys.take off ++ xs ++ ys.drop (off + xs.length)) (vs := vs.take off ++ ((⟨tmps, []⟩ : Act).eval x).cells.toList ++ vs.drop (off + xs.length)) hb hh hrl
            (((hvs.takeN off).append hl).append (hvs.dropN _))
            (fun u hu => by
              simp only [List.mem_append] at hu
              rcases hu with (hu | hu) | hu
              · exact hone u (List.mem_of_mem_take hu)
              · exact h1 u hu
              · exact hone u (List.mem_of_mem_drop hu))
          have hrun2 : (execOp (⟨tmps, []⟩ : Act).eval o).run P w = .ok .skip (w.setRow b (vs.take off ++ ((⟨tmps, []⟩ : Act).eval x).cells.toList ++ vs.drop (off + xs.length)).toArray) := by
            simp only [Nat.add_zero, hlen] at hrun
            simp [execOp, ho, Instr.storeAt, hav, Instr.sureAddr, storeVar, ok.run_size, hsz, hrun]
          unfold Oper.wp
          rw [hrun2]
          simp only [Oper.upon]
          rw [hput]
          obtain ⟨ow', g4⟩ := hset.lay (r := r) (off := off) (xs := xs) (ys := (ys.drop off).take xs.length) (by simpa using hrl)
          exact hK rfl _ _ k ow' (Know.le_refl k) (g4.put o.dst hdst' (by simp [RepX, Rep]))
        · cases h
      · cases h
    · cases h
  · -- makeMap
    rename_i t ho
    simp only [Option.some.injEq, Prod.mk.injEq] at h
    obtain ⟨rfl, rfl⟩ := h
    obtain ⟨k', g1, g2, g3⟩ := hs1.newOb (ob := Ob.map []) (.map #[] 0) (fun k' w' _ hh => ⟨#[], 0, hh, rfl, by simp [RepL]⟩)
    refine wp_value (u := .map (some w.heap.size)) (w' := w.alloc (.map #[] 0)) ?_ ?_
    · simp [execOp, ho, Instr.makeMap]
    · rw [hput]
      exact hK rfl _ _ k' ow g1 (g3.put o.dst hdst' (by simp only [RepX]; exact ⟨_, g2, rfl⟩))
  · -- mapUpdate
    rename_i t m kx x ho
    split at h
    · rename_i kind et r kv c hty hm hlit hrd
      split at h
      · rename_i es hr
        split at h
        · rename_i es' hp
          simp only [Option.some.injEq, Prod.mk.injEq] at h
          obtain ⟨rfl, rfl⟩ := h
          have hmv := hs.ev m
          rw [hm] at hmv
          obtain ⟨w', g1, g2⟩ := mapUpdate_sound (P := P) hs1 hty hmv (litOf_rep hlit (hs.ev kx)) (repX_rd _ _ _ hrd (hs.ev x)) hr hp
          have hrun2 : (execOp (⟨tmps, []⟩ : Act).eval o).run P w = .ok .skip w' := by simp [execOp, ho, g1]
          unfold Oper.wp
          rw [hrun2]
          simp only [Oper.upon]
          rw [hput]
          exact hK rfl _ _ k ow (Know.le_refl k) (g2.put o.dst hdst' (by simp [RepX, Rep]))
        · cases h
      · cases h
    · cases h
  · -- delete
    rename_i args tys ho
    split at h
    · rename_i m kx t t2 hargs htys
      split at h
      · rename_i kind et r kv hty hm hlit
        split at h
        · rename_i es hr
          split at h
          · rename_i es' hp
            simp only [Option.some.injEq, Prod.mk.injEq] at h
            obtain ⟨rfl, rfl⟩ := h
            have hmv := hs.ev m
            rw [hm] at hmv
            obtain ⟨w', g1, g2⟩ := delete_sound (P := P) (t2 := t2) (ty := o.type) hs1 hty hmv (litOf_rep hlit (hs.ev kx)) hr hp
            have ha : args = #[m, kx] := by rw [← Array.toArray_toList (xs := args), hargs]
            have ht : tys = #[t, t2] := by rw [← Array.toArray_toList (xs := tys), htys]
            subst ha; subst ht
            refine wp_value (u := .tuple #[]) (w' := w') (by simp [execOp, ho, resolve, invoke, builtin, g1]) ?_
            rw [hput]
            exact hK rfl _ _ k ow (Know.le_refl k) (g2.put o.dst hdst' (by simp [RepX, RepXs]))
          · cases h
        · cases h
      · cases h
    · cases h
  · -- panic
    rename_i x ho
    split at h
    · rename_i t c hc
      simp only [Option.some.injEq, Prod.mk.injEq] at h
      obtain ⟨rfl, rfl⟩ := h
      have hrep := repX_rd _ _ _ hc (hs.ev x)
      have hrep' := hrep
      simp only [Rep] at hrep
      obtain ⟨u, hu, _⟩ := hrep
      have hrun : (execOp (⟨tmps, []⟩ : Act).eval o).run P w = .halt (.panic ((⟨tmps, []⟩ : Act).eval x)) w := by
        rw [hu]
        simp [execOp, ho, hu, Instr.panic, goPanic]
      unfold Oper.wp
      rw [hrun]
      simp only [Oper.upon]
      exact hP _ rfl _ w k ow (Know.le_refl k) hs1 (by simpa only [RepX] using hrep')
    · cases h
  · -- a call
    rename_i f args tys ho
    split at h
    · rename_i g us htg
      split at h
      · obtain ⟨cvs, hfv, hus⟩ : ∃ cvs : List Value, (⟨tmps, []⟩ : Act).eval f = .func (.func g) #[] cvs.toArray ∧ RepXs k ow us ((args.toList.map fun x => (⟨tmps, []⟩ : Act).eval x) ++ cvs) := by
          have hfx := hs.ev f
          unfold target at htg
          simp only at htg
          split at htg
          · rename_i g' caps hf
            simp only [Option.some.injEq, Prod.mk.injEq] at htg
            obtain ⟨rfl, rfl⟩ := htg
            rw [hf] at hfx
            simp only [RepX, Rep] at hfx
            obtain ⟨vs, h1, h2⟩ := hfx
            exact ⟨vs, h1, evs_rep' hs _ (RepXs.of h2)⟩
          · rename_i g' caps hf
            simp only [Option.some.injEq, Prod.mk.injEq] at htg
            obtain ⟨rfl, rfl⟩ := htg
            rw [hf] at hfx
            simp only [RepX] at hfx
            obtain ⟨vs, h1, h2⟩ := hfx
            exact ⟨vs, h1, evs_rep' hs _ h2⟩
          · cases htg
        obtain ⟨hc, hcall⟩ := callS_sound hs horc hd hdst' hus h
        have hrun : (execOp (⟨tmps, []⟩ : Act).eval o).run P w = .ok (.enter g ((args.toList.map fun x => (⟨tmps, []⟩ : Act).eval x) ++ cvs).toArray) w := by
          unfold callable at hc
          split at hc
          · rename_i fn hfn
            simp only [Bool.and_eq_true, Bool.not_eq_true', Option.isSome_iff_exists] at hc
            obtain ⟨⟨b, hb⟩, hn⟩ := hc
            have hn' : ¬ fn.name = "runtime.NumGoroutine" := by simpa using hn
            have hargs : ((args.toList.map fun x => (⟨tmps, []⟩ : Act).eval x) ++ cvs).toArray = Array.map (fun x => (⟨tmps, []⟩ : Act).eval x) args ++ cvs.toArray := by
              apply Array.ext'
              simp
            rw [hargs]
            simp [execOp, ho, resolve, hfv, Deferred.ofValue, invoke, callFunc, hfn, hn', hb]
          · cases hc
        unfold Oper.wp
        rw [hrun]
        simp only [Oper.upon]
        refine hcall.mono fun en w' ⟨k', ow', g1, hcase⟩ => ?_
        rcases hcase with ⟨he, v, rfl, g2⟩ | ⟨x, v, he, rfl, g2, g3⟩
        · show K ((⟨tmps, []⟩ : Act).put o.dst v) w'
          rw [hput]
          exact hK he _ _ k' ow' g1 g2
        · exact hP x he v w' k' ow' g1 g3 g2
      · exact stepV_sound hs horc hd hdst h hK
    · cases h
  · exact stepV_sound hs horc hd hdst h hK

/-! ### Guards -/
theorem guard_sound (hs : Sim M0 k ow done w0 w N s tmps) {ops : Array Oper} {o : Oper} {b : Bool} (h : guardOk ops s o = some b) : Region.wanted o (yielded ops tmps) = b := by
  unfold guardOk at h
  unfold Region.wanted
  split at h
  · rename_i hg
    simp only [Option.some.injEq] at h
    simp [hg, h]
  · rename_i j want hg
    simp only [hg]
    split at h
    · rename_i d hd
      have hx := hs.fr d
      unfold yielded
      rw [hd]
      simp only [Option.bind_some]
      split at h
      · rename_i b' hb
        rw [hb] at hx
        simp only [RepX, Rep] at hx
        simp only [Option.some.injEq] at h
        have : tmps[d]? = some (.bool b') := by
          rw [Array.getD_eq_getD_getElem?] at hx
          cases hc : tmps[d]? with
          | none => rw [hc] at hx; simp [undef] at hx
          | some u => rw [hc] at hx; simp at hx; rw [hx.1]
        rw [this]
        simp only []
        rw [← h]
        cases b' <;> cases want <;> rfl
      · rename_i hb
        rw [hb] at hx
        simp only [RepX, Rep] at hx
        simp only [Option.some.injEq] at h
        rw [Array.getD_eq_getD_getElem?] at hx
        cases hc : tmps[d]? with
        | none => simp [← h]
        | some u =>
          rw [hc] at hx
          simp at hx
          subst hx
          simp [undef, ← h]
      · cases h
    · rename_i hd
      simp only [Option.some.injEq] at h
      unfold yielded
      rw [hd]
      simp [← h]

theorem stepG_sound (hs : Sim M0 k ow done w0 w N s tmps) {E : En} (horc : EnSound P M0.G E) {dr : Bool} {ops : Array Oper} {ix : Nat} (hd : ¬ done ix) {o : Oper} (hi : ops[ix]? = some o) {e : Option X} {s' : S} (hdst : dstOk N o = true)
    (h : stepG P (TT.of P) E dr ops s ix o = some (e, s')) {K : Act → World → Prop} {Q : Exit → Act → World → Prop}
    (hK : e = none → ∀ tmps' w' k' ow', k.le k' → Sim M0 k' ow' (fun j => done j ∨ j = ix) w0 w' N s' tmps' → K ⟨tmps', []⟩ w')
    (hP : ∀ x, e = some x → ∀ v w' k' ow', k.le k' → Sim M0 k' ow' (fun j => done j ∨ j = ix) w0 w' N s' tmps → RepX k' ow' x v → Q (.panic [{ v := v, recovered := false }]) ⟨tmps, []⟩ w') : wpOp P ops Q ix K ⟨tmps, []⟩ w := by
  unfold stepG at h
  unfold wpOp
  simp only [hi]
  split at h
  · rename_i hg
    rw [guard_sound hs hg, if_pos rfl]
    exact .inl (step_sound hs horc hd hdst h hK hP)
  · rename_i hg
    rw [guard_sound hs hg, if_neg (by simp)]
    simp only [Option.some.injEq, Prod.mk.injEq] at h
    obtain ⟨rfl, rfl⟩ := h
    have hdst' : ∀ j, o.dst = some j → j < N := fun j hj => by
      unfold dstOk at hdst
      rw [hj] at hdst
      simpa using hdst
    have := (hs.more (done' := fun j => done j ∨ j = ix) (fun _ h => .inl h)).put o.dst hdst' (x := .of .undef) (v := undef) (by simp [RepX, Rep])
    have hput : (⟨tmps, []⟩ : Act).put o.dst undef = ⟨((⟨tmps, []⟩ : Act).put o.dst undef).tmps, []⟩ := by cases o.dst <;> rfl
    rw [hput]
    exact hK rfl _ _ k ow (Know.le_refl k) this
  · cases h

/-- The operations of a region, in the order of the text. -/
theorem evOps_sound {E : En} (horc : EnSound P M0.G E) {dr : Bool} {ops : Array Oper} {Q : Exit → Act → World → Prop} {e : Option X} {s' : S} : ∀ (l : List Oper) (n : Nat) (s : S) (w : World) (tmps : Array Value) (k : Know) (ow : Own) (done : Nat → Prop),
    (∀ j, l[j]? = ops[n + j]?) → (∀ o ∈ l, dstOk N o = true) → (∀ j, done j → j < n) → Sim M0 k ow done w0 w N s tmps → evOps P (TT.of P) E dr ops n l s = some (e, s') →
    (e = none → ∀ tmps' w' k' ow' done', k.le k' → Sim M0 k' ow' done' w0 w' N s' tmps' → Q .normal ⟨tmps', []⟩ w') →
    (∀ x, e = some x → ∀ v tmps' w' k' ow' done', k.le k' → Sim M0 k' ow' done' w0 w' N s' tmps' → RepX k' ow' x v → Q (.panic [{ v := v, recovered := false }]) ⟨tmps', []⟩ w') → wpOps P ops Q (List.range' n l.length) ⟨tmps, []⟩ w
  | [], n, s, w, tmps, k, ow, done, _, _, _, hs, h, hQ, _ => by
    simp only [evOps, Option.some.injEq, Prod.mk.injEq] at h
    obtain ⟨rfl, rfl⟩ := h
    exact hQ rfl tmps w k ow done (Know.le_refl k) hs
  | o :: l, n, s, w, tmps, k, ow, done, hl, hdst, hdone, hs, h, hQ, hP => by
    have h0 : ops[n]? = some o := by simpa using (hl 0).symm
    simp only [evOps] at h
    simp only [List.length_cons, List.range'_succ]
    rw [wpOps_cons]
    split at h
    · rename_i s1 h1
      refine stepG_sound hs horc (fun hd => by have := hdone n hd; omega) h0 (hdst o (by simp)) h1 (fun _ tmps' w' k' ow' g1 g2 => ?_) (fun x hx => by cases hx)
      exact evOps_sound horc l (n + 1) s1 w' tmps' k' ow' _ (fun j => by have := hl (j + 1); simpa [Nat.add_assoc, Nat.add_comm 1 j] using this) (fun o ho => hdst o (by simp [ho]))
        (fun j hj => by rcases hj with hj | hj; have := hdone j hj; omega; omega) g2 h
        (fun he tmps' w' k'' ow' done' g3 g4 => hQ he tmps' w' k'' ow' done' (Know.le_trans g1 g3) g4)
        (fun x he v tmps' w' k'' ow' done' g3 g4 => hP x he v tmps' w' k'' ow' done' (Know.le_trans g1 g3) g4)
    · rename_i x s1 h1
      simp only [Option.some.injEq, Prod.mk.injEq] at h
      obtain ⟨rfl, rfl⟩ := h
      exact stepG_sound hs horc (fun hd => by have := hdone n hd; omega) h0 (hdst o (by simp)) h1 (fun he => by cases he) (fun x hx v w' k' ow' g1 g2 => hP x hx v tmps w' k' ow' _ g1 g2)
    · cases h
end
end Go.Pe

/-
  value's functions, by the evaluator. Conditions: none.
-/
import Derived.Test.YtiepbejeiijpmaaDoorPb7
import Derived.Lib.AppendIntMem
namespace Go.Proofs.YtiepbejeiijpmaaDoor
open Go Go.Pe Go.Tab Go.RowKit

/-- The table that Itoa reads. -/
def tabName : String := "internal/strconv.uint64pow10"
theorem repl_byC (m : Mem) : ∀ (l : List UInt8) (vs : List Value), RepL m (byC l) vs → vs = Lib.byteCells l
  | [], vs, h => by simpa [byC, RepL, Lib.byteCells] using h
  | b :: l, vs, h => by
    simp only [byC, List.map_cons, RepL, Rep] at h
    obtain ⟨v, r, rfl, ⟨rfl, _⟩, h2⟩ := h
    rw [repl_byC m l r h2]
    rfl
theorem byC_repl (m : Mem) : ∀ l : List UInt8, RepL m (byC l) (Lib.byteCells l)
  | [] => rfl
  | b :: l => ⟨_, _, rfl, ⟨rfl, rfl⟩, byC_repl m l⟩
theorem bytes_one (l : List UInt8) (u : Value) (h : u ∈ Lib.byteCells l) : u.oneCell' = true := by
  simp only [Lib.byteCells, List.mem_map] at h
  obtain ⟨b, _, rfl⟩ := h
  rfl

/-- What a Builder is in memory. -/
theorem bld_at {G : GP} {k : Know} {ow : Own} {w : World} {xs0 : List X} {l : List UInt8} (hp : Hp ⟨G, k.m, Given k ow⟩ k ow w w [.var 83 xs0]) (hl : bldOf [.var 83 xs0] = some l) :
    ∃ b p v, k.μ 0 = some b ∧ (p = .pointer none ∨ p = .pointer (some ⟨b, 0, none⟩)) ∧ BAt b p v (Lib.byteCells l) w ∧ (v.ownBlock = none ∨ ow (.cell 0 1) = some (v, 5, 1, l.length)) := by
  obtain ⟨b, hb, _, _, hbm, vs, hh, _, hvs⟩ := hp.obj 0 _ rfl
  unfold bldOf at hl
  split at hl
  · rename_i e
    simp only [List.cons.injEq, Ob.var.injEq, true_and, and_true] at e
    subst e
    simp only [Option.some.injEq] at hl
    subst hl
    simp only [RepXs, RepX, Rep] at hvs
    obtain ⟨v1, r1, rfl, ⟨rfl, _⟩, v2, r2, rfl, rfl, rfl⟩ := hvs
    exact ⟨b, _, _, hb, .inl rfl, ⟨hh, World.ownsRow_nil w 0 _ 1, by simp [Value.ownBlock]⟩, .inl rfl⟩
  · rename_i cs n e
    simp only [List.cons.injEq, Ob.var.injEq, true_and, and_true] at e
    subst e
    obtain rfl := unby_eq cs l hl
    simp only [RepXs, RepX] at hvs
    obtain ⟨v1, r1, rfl, ⟨b', hb', rfl⟩, v2, r2, rfl, ⟨ho, hcl, hrep⟩, rfl⟩ := hvs
    obtain rfl := Option.some.inj (hb.symm.trans hb')
    obtain rfl : n = l.length := by rw [byC_length] at hcl; omega
    obtain ⟨⟨xs, hown⟩, htok⟩ := hp.tok _ _ _ _ _ ho
    have hxs : xs = Lib.byteCells l := by
      simp only [Rep] at hrep
      obtain ⟨a, cp, us, rfl, _, hul, hum⟩ := hrep
      rw [← repl_byC _ _ _ hul]
      have e1 : us.length = xs.length := by rw [hul.length, hown.1, hcl]
      apply List.ext_getElem?
      intro i
      by_cases hi : i < us.length
      · have hne : us ≠ [] := by rintro rfl; simp at hi
        obtain ⟨b1, o, rfl, hc⟩ := hum hne
        rcases hown.2 with ⟨h0, _⟩ | ⟨g, cap2, cur, hv, _⟩
        · cases h0
        · simp only [Value.slice.injEq, Option.some.injEq, Addr.mk.injEq] at hv
          obtain ⟨⟨rfl, rfl, _⟩, _, rfl⟩ := hv
          have hu : us[i]? = some us[i] := by simp [hi]
          have hc1 := (hp.mem _ _ _ (hc i _ hu)).1
          have hx2 : xs[i]? = some (xs[i]'(by omega)) := by simp [show i < xs.length by omega]
          have hc2 := hown.cells (g := b1) rfl i _ hx2
          rw [Addr.add_lit] at hc2
          rw [hu, hx2, Option.some.inj (hc2.symm.trans hc1)]
      · rw [List.getElem?_eq_none (by omega), List.getElem?_eq_none (by omega)]
    subst hxs
    refine ⟨b, _, _, hb, .inr rfl, ⟨hh, by rw [Lib.byteCells_length]; exact hown, fun e => (htok b e).2.2 0 hb⟩, .inr ho⟩
  · cases hl

/-- The right of a Builder's buffer turns. -/
def owB (ow : Own) (v : Value) (n : Nat) : Own := fun t => if t = .cell 0 1 then some (v, 5, 1, n) else ow t
theorem bld_after {G : GP} {k : Know} {ow : Own} {w w' : World} {xs0 : List X} {l l' : List UInt8} {b : Nat} {v v' : Value} {p : Value} (hp : Hp ⟨G, k.m, Given k ow⟩ k ow w w [.var 83 xs0]) (hb : k.μ 0 = some b)
    (hB : BAt b p v (Lib.byteCells l) w) (hv : v.ownBlock = none ∨ ow (.cell 0 1) = some (v, 5, 1, l.length)) (h : BPost b v w w' v' (Lib.byteCells (l ++ l'))) :
    ∃ k', Hp ⟨G, k.m, Given k ow⟩ k' (owB ow v' (l ++ l').length) w w' [.var 83 (bld (l ++ l'))] ∧ k.m.le k'.m ∧ k'.μ = k.μ := by
  have hbl := Lib.byteCells_length (l ++ l')
  obtain ⟨_, hb', _, hblt, hbm, _⟩ := hp.obj 0 _ rfl
  obtain rfl := Option.some.inj (hb.symm.trans hb')
  let m' : Mem := fun c o => if some c = v'.ownBlock ∧ o < (l ++ l').length then (Lib.byteCells (l ++ l'))[o]? else k.m c o
  have hdom : ∀ r c, k.μ r = some c → r = 0 ∧ c = b := fun r c hr => by
    have := hp.dom r c hr
    simp only [List.length_singleton, Nat.lt_one_iff] at this
    subst this
    exact ⟨rfl, Option.some.inj (hr.symm.trans hb)⟩
  -- the old row, if there is one, is given
  have hold : ∀ g, v.ownBlock = some g → Given k ow g ∧ (∀ o, l.length ≤ o → k.m g o = none) ∧ ∀ t u e z n, t ≠ .cell 0 1 → ow t = some (u, e, z, n) → u.ownBlock ≠ some g := fun g hg => by
    rcases hv with h0 | h0
    · rw [h0] at hg; cases hg
    · obtain ⟨_, ht⟩ := hp.tok _ _ _ _ _ h0
      exact ⟨.inr ⟨_, _, _, _, _, h0, hg⟩, by simpa using (ht g hg).2.1, fun t u e z n hne h1 => hp.tokne _ _ _ _ _ _ _ _ _ _ h0 h1 (Ne.symm hne) g hg⟩
  have hnew : ∀ g, v'.ownBlock = some g → v.ownBlock = some g ∨ w.heap.size ≤ g := fun g hg => by
    rcases h.row with ⟨h1, _⟩ | ⟨⟨g', h1, h2⟩, _⟩
    · exact .inl (h1 ▸ hg)
    · rw [h1] at hg; exact .inr (Option.some.inj hg ▸ h2)
  have hsame : ∀ c, c < w.heap.size → c ≠ b → (some c ≠ v.ownBlock ∨ some c ≠ v'.ownBlock) → w'.heap[c]? = w.heap[c]? := fun c hc hcb hcv => by
    rcases h.row with ⟨h1, h2⟩ | ⟨_, h2⟩
    · exact h2 c hc hcb (by rw [h1] at hcv; exact hcv.elim id id)
    · exact h2 c hc hcb
  have hrow : ∀ c o u, v'.ownBlock = some c → (Lib.byteCells (l ++ l'))[o]? = some u → w'.cell? ⟨c, o, none⟩ = some u := fun c o u hc hu => by
    have := h.at'.own.cells (g := c) hc o u hu
    rwa [Addr.add_lit, Nat.zero_add] at this
  have hle : k.m.le m' := fun c o u hu => by
    simp only [m']
    split
    · rename_i hc
      rcases hnew c hc.1.symm with h1 | h1
      · have ho : o < l.length := by
          rcases Nat.lt_or_ge o l.length with h2 | h2
          · exact h2
          · rw [(hold c h1).2.1 o h2] at hu; cases hu
        have hx : (Lib.byteCells l)[o]? = some ((Lib.byteCells l)[o]'(by rw [Lib.byteCells_length]; exact ho)) := by simp [Lib.byteCells_length, ho]
        have h2 := hB.own.cells (g := c) h1 o _ hx
        rw [Addr.add_lit, Nat.zero_add] at h2
        have h3 := (hp.mem c o u hu).1
        have e := Option.some.inj (h2.symm.trans h3)
        simp only [Lib.byteCells, List.map_append]
        rw [List.getElem?_append_left (by simpa using ho)]
        rw [← e]
        exact hx
      · have := mem_lt hp.mem hu
        omega
    · exact hu
  refine ⟨⟨m', k.μ⟩, ?_, hle, rfl⟩
  exact {
    good := hp.good
    below := ⟨h.os, h.tape, h.output, h.size, fun c hc hm => hsame c hc (fun e => hm (.inl ⟨0, by rw [e]; exact hb⟩)) (.inl fun e => hm (hold c e.symm).1)⟩
    mem := fun c o u hu => by
      simp only [m'] at hu
      split at hu
      · rename_i hc
        exact ⟨hrow c o u hc.1.symm hu, bytes_one _ u (List.mem_of_getElem? hu)⟩
      · rename_i hc
        obtain ⟨h1, h2⟩ := hp.mem c o u hu
        have hlt := mem_lt hp.mem hu
        refine ⟨(World.cell?_of_block (a := ⟨c, o, none⟩) (hsame c hlt ?_ ?_)).trans h1, h2⟩
        · rintro rfl; rw [hbm o] at hu; cases hu
        · by_cases e : some c = v'.ownBlock
          · left
            intro e2
            have : ¬ o < (l ++ l').length := fun h3 => hc ⟨e, h3⟩
            rw [(hold c e2.symm).2.1 o (by simp at this; omega)] at hu
            cases hu
          · exact .inr e
    obj := fun r ob hr => by
      match r, hr with
      | 0, hr =>
        simp only [List.getElem?_cons_zero, Option.some.injEq] at hr
        subst hr
        refine ⟨b, hb, .inr (.inl ⟨0, hb⟩), h.at'.lt, fun o => ?_, [.pointer (some ⟨b, 0, none⟩), v'], h.at'.blk, ?_, ?_⟩
        · simp only [m']
          rw [if_neg fun e => h.at'.ne e.1.symm]
          exact hbm o
        · intro u hu
          simp only [List.mem_cons, List.not_mem_nil, or_false] at hu
          rcases hu with rfl | rfl
          · rfl
          · rcases h.at'.own.2 with ⟨rfl, _⟩ | ⟨g, cap, cur, rfl, _⟩ <;> rfl
        · refine ⟨_, _, rfl, ⟨b, hb, rfl⟩, _, _, rfl, ⟨?_, ?_, ?_⟩, rfl⟩
          · simp [owB]
          · rw [byC_length]; omega
          · have hown := h.at'.own
            rw [hbl] at hown
            rcases hown.2 with ⟨e1, e2⟩ | ⟨g, cap, cur, e1, _, _, hnc, _⟩
            · have : l ++ l' = [] := List.eq_nil_of_length_eq_zero e2
              rw [this, e1]
              exact ⟨none, 0, [], rfl, Nat.le_refl _, rfl, fun h => absurd rfl h⟩
            · refine ⟨_, cap, Lib.byteCells (l ++ l'), e1, hnc, byC_repl _ _, fun _ => ⟨g, 0, rfl, fun i u hu => ?_⟩⟩
              simp only [m', Nat.zero_add]
              rw [if_pos ⟨by rw [e1]; rfl, by rw [← hbl]; exact (List.getElem?_eq_some_iff.1 hu).1⟩]
              exact hu
    dom := hp.dom
    inj := hp.inj
    tok := fun t u e z n ht => by
      simp only [owB] at ht
      split at ht
      · simp only [Option.some.injEq, Prod.mk.injEq] at ht
        obtain ⟨rfl, rfl, rfl, rfl⟩ := ht
        refine ⟨⟨_, by have := h.at'.own; rw [hbl] at this; exact this⟩, fun g hg => ⟨?_, fun o ho => ?_, fun r hr => ?_⟩⟩
        · rcases hnew g hg with h1 | h1
          · exact .inr (hold g h1).1
          · exact .inl h1
        · simp only [m']
          rw [if_neg fun e => by have := e.2; omega]
          rcases hnew g hg with h1 | h1
          · exact (hold g h1).2.1 o (by simp at ho; omega)
          · cases hm : k.m g o with
            | none => rfl
            | some u => have := mem_lt hp.mem hm; omega
        · obtain ⟨_, rfl⟩ := hdom r g hr
          exact h.at'.ne hg
      · rename_i hne
        obtain ⟨⟨xs, h1⟩, h2⟩ := hp.tok t u e z n ht
        refine ⟨⟨xs, ownsRow_keep (fun g hg hlt => hsame g hlt (fun e => (h2 g hg).2.2 0 (by rw [e]; exact hb)) (.inl fun e => (hold g e.symm).2.2 t u _ _ _ hne ht hg)) h1⟩, fun g hg => ⟨(h2 g hg).1, fun o ho => ?_, (h2 g hg).2.2⟩⟩
        simp only [m']
        rw [if_neg]
        · exact (h2 g hg).2.1 o ho
        · rintro ⟨e, _⟩
          rcases hnew g e.symm with h3 | h3
          · exact (hold g h3).2.2 t u _ _ _ hne ht hg
          · have := (hp.tlt ht hg).2; omega
    tokne := fun t t' u e z n u' e' z' n' ht ht' hne g hg hg' => by
      have key : ∀ t u e z n, t ≠ .cell 0 1 → ow t = some (u, e, z, n) → u.ownBlock = some g → v'.ownBlock = some g → False := fun t u e z n h0 h1 h2 h3 => by
        rcases hnew g h3 with h4 | h4
        · exact (hold g h4).2.2 t u _ _ _ h0 h1 h2
        · have := (hp.tlt h1 h2).2; omega
      simp only [owB] at ht ht'
      split at ht
      · rename_i e1
        simp only [Option.some.injEq, Prod.mk.injEq] at ht
        obtain ⟨rfl, rfl, rfl, rfl⟩ := ht
        split at ht'
        · rename_i e2
          exact hne (e1.trans e2.symm)
        · rename_i e2
          exact key t' u' _ _ _ e2 ht' hg' hg
      · rename_i e1
        split at ht'
        · simp only [Option.some.injEq, Prod.mk.injEq] at ht'
          obtain ⟨rfl, rfl, rfl, rfl⟩ := ht'
          exact key t u _ _ _ e1 ht hg hg'
        · exact hp.tokne t t' _ _ _ _ _ _ _ _ ht ht' hne g hg hg'
    m0 := fun c o u hu hc hm => by
      simp only [m'] at hu
      split at hu
      · rename_i e
        rcases hnew c e.1.symm with h3 | h3
        · exact absurd (hold c h3).1 hm
        · omega
      · exact hu }

/-- What is given of the table. -/
def GT : GP where
  holds w := Lib.TabIs Tryd.prog w tabName .u64 Lib.pow10Tab ∧ ∃ m, w.cell? ⟨0, 0, none⟩ = some (.int .i64 m)
  blk b := Tryd.prog.globalNamed tabName = some b ∨ b = 0
  keep w w' h hk := by
    obtain ⟨h, m, hm⟩ := h
    refine ⟨?_, m, (World.cell?_of_block (a := ⟨0, 0, none⟩) (hk 0 (.inr rfl))).trans hm⟩
    unfold Lib.TabIs World.var? at h ⊢
    cases hg : Tryd.prog.globalNamed tabName with
    | none => rw [hg] at h; cases h
    | some g =>
      rw [hg] at h
      simp only [Option.bind_some] at h ⊢
      rw [hk g (.inl hg)]
      exact h

theorem itoa_sound (xs : List X) (obs : List Ob) (an : An) (h : itoaP xs obs = some an) : Sound Tryd.prog GT 83 xs obs an := by
  unfold itoaP at h
  split at h
  · rename_i n
    split at h
    · rename_i hn
      simp only [Option.some.injEq] at h
      subst h
      simp only [small64, decide_eq_true_eq] at hn
      intro fn hf k ow w vs hp hold hcl hvs
      simp only [RepXs, RepX, Rep] at hvs
      obtain ⟨v, r, rfl, ⟨rfl, _⟩, rfl⟩ := hvs
      refine (Tryd.strconv_Itoa n hn.1 hn.2 w hp.table.1).mono ?_
      rintro e w' ⟨rfl, kk, os, rfl⟩
      exact ⟨k, ow, [_], rfl, hp.grow (Lib.below_grow _ _ (Nat.le_refl _) _ _), Mem.le_refl _, Nat.le_refl _, fun _ _ => rfl, hold, hcl, _, _, rfl, ⟨rfl, rfl⟩, rfl⟩
    · cases h
  · cases h

theorem bld_obs {obs : List Ob} {l : List UInt8} (h : bldOf obs = some l) : ∃ xs0, obs = [.var 83 xs0] := by
  unfold bldOf at h
  split at h
  · exact ⟨_, rfl⟩
  · exact ⟨_, rfl⟩
  · cases h
theorem owB_old {ow : Own} (hold : ∀ t p, ow t = some p → t.older 1 fun _ => False) (v : Value) (n : Nat) : ∀ t p, owB ow v n t = some p → t.older 1 fun _ => False := fun t p ht => by
  simp only [owB] at ht
  split at ht
  · rename_i e; subst e; trivial
  · exact hold t p ht
theorem owB_cl {ow : Own} {m : Nat} (hm : 0 < m) (hcl : ∀ r off p, ow (.cell r off) = some p → r < m) (v : Value) (n : Nat) : ∀ r off p, owB ow v n (.cell r off) = some p → r < m := fun r off p ht => by
  simp only [owB] at ht
  split at ht
  · rename_i e; cases e; exact hm
  · exact hcl r off p ht

theorem ws_sound (xs : List X) (obs : List Ob) (an : An) (h : wsP xs obs = some an) : Sound Tryd.prog GT 87 xs obs an := by
  unfold wsP at h
  split at h
  · rename_i s
    simp only [Option.bind_eq_some_iff] at h
    obtain ⟨l, hl, h⟩ := h
    split at h
    · rename_i hlen
      simp only [Option.some.injEq] at h
      subst h
      obtain ⟨xs0, rfl⟩ := bld_obs hl
      intro fn hf k ow w vs hp hold hcl hvs
      obtain ⟨b, p, v, hb, hpp, hB, hv⟩ := bld_at hp hl
      simp only [RepXs, RepX, Rep] at hvs
      obtain ⟨v1, r1, rfl, ⟨b', hb', rfl⟩, v2, r2, rfl, ⟨rfl, _⟩, rfl⟩ := hvs
      obtain rfl := Option.some.inj (hb.symm.trans hb')
      refine (writeString b p v (Lib.byteCells l) s w hpp hB (by rw [Lib.byteCells_length]; exact hlen)).mono ?_
      rintro e w' ⟨rfl, v', hpost⟩
      have hpost' : BPost b v w w' v' (Lib.byteCells (l ++ s.data.toList)) := by
        have : Lib.byteCells (l ++ s.data.toList) = Lib.byteCells l ++ Lib.strCells s := by simp [Lib.byteCells, Lib.strCells]
        rw [this]; exact hpost
      obtain ⟨k', g1, g2, g3⟩ := bld_after hp hb hB hv hpost'
      exact ⟨k', _, [.int .i64 s.size, .nilIface], rfl, g1, g2, Nat.le_refl _, fun r _ => by rw [g3], owB_old hold _ _, owB_cl Nat.zero_lt_one hcl _ _, _, _, rfl, ⟨rfl, rfl⟩, _, _, rfl, ⟨rfl, rfl⟩, rfl⟩
    · cases h
  · cases h

theorem wb_sound (xs : List X) (obs : List Ob) (an : An) (h : wbP xs obs = some an) : Sound Tryd.prog GT 88 xs obs an := by
  unfold wbP at h
  split at h
  · rename_i n
    simp only [Option.bind_eq_some_iff] at h
    obtain ⟨l, hl, h⟩ := h
    split at h
    · rename_i hlen
      simp only [Option.some.injEq] at h
      subst h
      obtain ⟨hlen, hn0, hn1⟩ := hlen
      obtain ⟨xs0, rfl⟩ := bld_obs hl
      intro fn hf k ow w vs hp hold hcl hvs
      obtain ⟨b, p, v, hb, hpp, hB, hv⟩ := bld_at hp hl
      simp only [RepXs, RepX, Rep] at hvs
      obtain ⟨v1, r1, rfl, ⟨b', hb', rfl⟩, v2, r2, rfl, ⟨rfl, _⟩, rfl⟩ := hvs
      obtain rfl := Option.some.inj (hb.symm.trans hb')
      refine (writeByte b p v (Lib.byteCells l) n w hpp hB (by rw [Lib.byteCells_length]; exact hlen)).mono ?_
      rintro e w' ⟨rfl, v', hpost⟩
      have hpost' : BPost b v w w' v' (Lib.byteCells (l ++ [UInt8.ofNat n.toNat])) := by
        have : Lib.byteCells (l ++ [UInt8.ofNat n.toNat]) = Lib.byteCells l ++ [.int .u8 n] := by
          have : ((UInt8.ofNat n.toNat).toNat : Int) = n := by simp; omega
          simp only [Lib.byteCells, List.map_append, List.map_cons, List.map_nil, this]
        rw [this]; exact hpost
      obtain ⟨k', g1, g2, g3⟩ := bld_after hp hb hB hv hpost'
      exact ⟨k', _, [.nilIface], rfl, g1, g2, Nat.le_refl _, fun r _ => by rw [g3], owB_old hold _ _, owB_cl Nat.zero_lt_one hcl _ _, _, _, rfl, ⟨rfl, rfl⟩, rfl⟩
    · cases h
  · cases h

theorem bs_sound (xs : List X) (obs : List Ob) (an : An) (h : bsP xs obs = some an) : Sound Tryd.prog GT 89 xs obs an := by
  unfold bsP at h
  split at h
  · simp only [Option.map_eq_some_iff] at h
    obtain ⟨l, hl, rfl⟩ := h
    obtain ⟨xs0, rfl⟩ := bld_obs hl
    intro fn hf k ow w vs hp hold hcl hvs
    obtain ⟨b, p, v, hb, hpp, hB, hv⟩ := bld_at hp hl
    simp only [RepXs, RepX] at hvs
    obtain ⟨v1, r1, rfl, ⟨b', hb', rfl⟩, rfl⟩ := hvs
    obtain rfl := Option.some.inj (hb.symm.trans hb')
    refine (stringOf b p v l w hB).mono ?_
    rintro e w' ⟨rfl, hpost⟩
    obtain ⟨_, hb', _, hblt, hbm, _⟩ := hp.obj 0 _ rfl
    obtain rfl := Option.some.inj (hb.symm.trans hb')
    have hgiven : ∀ g, v.ownBlock = some g → Given k ow g := fun g hg => by
      rcases hv with h0 | h0
      · rw [h0] at hg; cases hg
      · exact .inr ⟨_, _, _, _, _, h0, hg⟩
    refine ⟨k, ow.del (.cell 0 1), [_], rfl, ?_, Mem.le_refl _, Nat.le_refl _, fun _ _ => rfl, fun t p ht => ?_, fun r off p ht => ?_, _, _, rfl, ⟨rfl, rfl⟩, rfl⟩
    · exact {
        good := hp.good
        below := ⟨hpost.os, hpost.tape, hpost.output, hpost.size, fun c hc hm => hpost.grown c hc fun e => hm (hgiven c e.symm)⟩
        mem := fun c o u hu => ⟨(hpost.cell c o (mem_lt hp.mem hu)).trans (hp.mem c o u hu).1, (hp.mem c o u hu).2⟩
        obj := fun r ob hr => by
          match r, hr with
          | 0, hr =>
            simp only [List.getElem?_cons_zero, Option.some.injEq] at hr
            subst hr
            refine ⟨b, hb, .inr (.inl ⟨0, hb⟩), Nat.lt_of_lt_of_le hblt hpost.size, hbm, [p, v], ?_, ?_, ?_⟩
            · rw [hpost.grown b hblt fun e => hB.ne e.symm]
              exact hB.blk
            · intro u hu
              simp only [List.mem_cons, List.not_mem_nil, or_false] at hu
              rcases hu with rfl | rfl
              · rcases hpp with rfl | rfl <;> rfl
              · rcases hB.own.2 with ⟨rfl, _⟩ | ⟨g, cap, cur, rfl, _⟩ <;> rfl
            · exact ⟨_, _, rfl, trivial, _, _, rfl, trivial, rfl⟩
        dom := hp.dom
        inj := hp.inj
        tok := fun t u e z n ht => by
          simp only [Own.del] at ht
          split at ht
          · cases ht
          · rename_i hne
            obtain ⟨⟨xs, h1⟩, h2⟩ := hp.tok t u e z n ht
            refine ⟨⟨xs, ownsRow_keep (fun g hg hlt => hpost.grown g hlt fun e => ?_) h1⟩, h2⟩
            rcases hv with h0 | h0
            · rw [h0] at e; cases e
            · exact hp.tokne _ _ _ _ _ _ _ _ _ _ h0 ht (Ne.symm hne) g e.symm hg
        tokne := fun t t' u e z n u' e' z' n' ht ht' => by
          simp only [Own.del] at ht ht'
          split at ht
          · cases ht
          · split at ht'
            · cases ht'
            · exact hp.tokne t t' _ _ _ _ _ _ _ _ ht ht'
        m0 := hp.m0 }
    · simp only [Own.del] at ht
      split at ht
      · cases ht
      · exact hold t p ht
    · simp only [Own.del] at ht
      split at ht
      · cases ht
      · exact hcl r off p ht
  · cases h

theorem often_sound (xs : List X) (obs : List Ob) (an : An) (h : oftenP xs obs = some an) : Sound Tryd.prog GT 22 xs obs an := by
  unfold oftenP at h
  split at h
  · rename_i m n all
    split at h
    · rename_i hmn
      simp only [Option.some.injEq] at h
      subst h
      intro fn hf k ow w vs hp hold hcl hvs
      simp only [RepXs, RepX, Rep] at hvs
      obtain ⟨v, r, rfl, ⟨rfl, _⟩, v2, r2, rfl, ⟨rfl, _⟩, v3, r3, rfl, ⟨rfl, _⟩, rfl⟩ := hvs
      refine (often_walk m n ⟨hmn.1, hmn.2.1⟩ ⟨hmn.2.2.1, hmn.2.2.2⟩ all w).mono ?_
      rintro e w' ⟨rfl, hB⟩
      exact ⟨k, ow, [_], rfl, hp.grow hB, Mem.le_refl _, Nat.le_refl _, fun _ _ => rfl, hold, hcl, _, _, rfl, ⟨[_, _, _], rfl, by simp [Value.oneCell'], ⟨_, _, rfl, ⟨rfl, rfl⟩, _, _, rfl, ⟨rfl, rfl⟩, _, _, rfl, ⟨rfl, rfl⟩, rfl⟩⟩, rfl⟩
    · cases h
  · cases h

theorem sc_sound (xs : List X) (obs : List Ob) (an : An) (h : scP xs obs = some an) : Sound Tryd.prog GT 54 xs obs an := by
  unfold scP at h
  split at h
  · rename_i a b
    simp only [Option.some.injEq] at h
    subst h
    intro fn hf k ow w vs hp hold hcl hvs
    simp only [RepXs, RepX, Rep] at hvs
    obtain ⟨v, r, rfl, ⟨rfl, _⟩, v2, r2, rfl, ⟨rfl, _⟩, rfl⟩ := hvs
    refine (Tryd.strings_Compare a b w).mono ?_
    rintro e w' ⟨rfl, rfl⟩
    exact ⟨k, ow, [_], rfl, hp, Mem.le_refl _, Nat.le_refl _, fun _ _ => rfl, hold, hcl, _, _, rfl, ⟨rfl, rfl⟩, rfl⟩
  · cases h

theorem odd_walk (r : Nat) (w : World) : Calls Tryd.prog 59 #[.int .i32 (r : Int)] w fun e w' => e = .returned (.bool (oddR r)) ∧ Below w.heap.size w w' := by
  unfold oddR
  by_cases h1 : (r : Int) < 32
  · have h2 : r < 32 := by omega
    go_enter Tryd.func59, Tryd.ntmps59
    go_wp2
    go_ret
    exact ⟨by simp [h2], .refl _ _⟩
  · have h2 : ¬ r < 32 := by omega
    by_cases h3 : (126 : Int) < r
    · have h4 : 126 < r := by omega
      go_enter Tryd.func59, Tryd.ntmps59
      go_wp2
      go_ret
      exact ⟨by simp [h4], .refl _ _⟩
    · have h4 : ¬ 126 < r := by omega
      go_enter Tryd.func59, Tryd.ntmps59
      go_wp2
      go_ret
      exact ⟨by simp [h2, h4], .refl _ _⟩
theorem ix_sound (xs : List X) (obs : List Ob) (an : An) (h : ixP xs obs = some an) : Sound Tryd.prog GT 58 xs obs an := by
  unfold ixP at h
  split at h
  · rename_i s f
    split at h
    · rename_i hf
      subst hf
      simp only [Option.some.injEq] at h
      subst h
      intro fn hf k ow w vs hp hold hcl hvs
      simp only [RepXs, RepX, Rep, RepL] at hvs
      obtain ⟨v, r, rfl, ⟨rfl, _⟩, v2, r2, rfl, ⟨us, rfl, rfl⟩, rfl⟩ := hvs
      refine (Tryd.strings_IndexFunc_grows 59 #[] (enters_of Tryd.func59 (by kernel_rfl) rfl) oddR s w fun W x _ _ => odd_walk x W).mono ?_
      rintro e w' ⟨rfl, hB⟩
      exact ⟨k, ow, [_], rfl, hp.grow hB, Mem.le_refl _, Nat.le_refl _, fun _ _ => rfl, hold, hcl, _, _, rfl, ⟨rfl, rfl⟩, rfl⟩
    · cases h
  · cases h
theorem ra_sound (xs : List X) (obs : List Ob) (an : An) (h : raP xs obs = some an) : Sound Tryd.prog GT 66 xs obs an := by
  unfold raP at h
  split at h
  · rename_i s a b
    split at h
    · rename_i hc
      simp only [Option.some.injEq] at h
      subst h
      intro fn hf k ow w vs hp hold hcl hvs
      simp only [RepXs, RepX, Rep] at hvs
      obtain ⟨v, r, rfl, ⟨rfl, _⟩, v2, r2, rfl, ⟨rfl, _⟩, v3, r3, rfl, ⟨rfl, _⟩, rfl⟩ := hvs
      obtain ⟨m, hm⟩ := hp.table.2
      refine (Tryd.strings_ReplaceAll s a b m w hc.1 hm hc.2.1 hc.2.2).mono ?_
      rintro e w' ⟨rfl, hB⟩
      exact ⟨k, ow, [_], rfl, hp.grow hB, Mem.le_refl _, Nat.le_refl _, fun _ _ => rfl, hold, hcl, _, _, rfl, ⟨rfl, rfl⟩, rfl⟩
    · cases h
  · cases h

/-- What is given holds, the sort left out. -/
theorem prB_sound {b : Bool} (hs : b = true → ∀ xs obs an, sortedP xs obs = some an → Sound Tryd.prog GT 41 xs obs an) : PrSound Tryd.prog GT (prB b) where
  prim f xs obs an h := by
    replace h : prims b f xs obs = some an := h
    unfold prims at h
    split at h
    · rename_i e; subst e; exact itoa_sound xs obs an h
    split at h
    · rename_i e; subst e; exact ws_sound xs obs an h
    split at h
    · rename_i e; subst e; exact wb_sound xs obs an h
    split at h
    · rename_i e; subst e; exact bs_sound xs obs an h
    split at h
    · rename_i e; subst e; exact often_sound xs obs an h
    split at h
    · rename_i e; subst e; exact sc_sound xs obs an h
    split at h
    · rename_i e; subst e; exact ix_sound xs obs an h
    split at h
    · rename_i e; subst e; exact ra_sound xs obs an h
    split at h
    · rename_i e
      subst e
      split at h
      · rename_i hb; exact hs hb xs obs an h
      · cases h
    · cases h
theorem pr0_sound : PrSound Tryd.prog GT (prB false) := prB_sound fun h => by cases h
end Go.Proofs.YtiepbejeiijpmaaDoor
namespace Go.Proofs.YtiepbejeiijpmaaDoor
open Go Go.Pe Go.Tab

variable {b : Bool}

theorem isNaN_call (n : Int) : GB b 80 [xint n] (xbool false) := by
  refine by_body rfl ok80 body80 ar80 rfl ?_
  simp -implicitDefEqProofs only [Tryd.f80, Z2i, Z2n, Z2g, Z2h, Z2k, Z2l, Z2m, Z2j, Z2f, Z2d, Z2e, Z3i, Z3h, Z3g, Nat.zero_mul, Nat.reduceMul, Z4k, Z13, Z14, List.length_map, Z35, Z34, Z37, Z33, Z36, Z31, Z38, Z32, Z30, Z2z, Tk.nm.injEq, Tk.cell.injEq, false_and, and_false, Z2o, Z4j, Nat.le_add_right, Z5h, Z5i, Z6z, Nat.le_refl, Z5v, Z5u, Z2s, ↓Zx, ↓Zs, ↓Zt, ↓Zw, ↓Zy, ↓Zu, ↓Zv, ↓Zz, ↓Z10, ↓Zl, ↓Z2, ↓Zo, ↓Z3, ↓Zr, ↓Zg, ↓Zc, ↓Zb, ↓Ze, ↓Zd, ↓Zp, ↓Z9, ↓Za, ↓Zm, ↓Zi, ↓Z5, ↓Z6, ↓Zf, ↓Z1, ↓Z7, ↓Z8, ↓Z0, ↓Z4, ↓Zq, ↓Zh, ↓Zk, ↓Zj, ↓Zn, ↓Z64, ↓Z66, ↓Z63, ↓Z65, ↓Z7f, ↓Z7g, ↓Z7e, ↓Z2x, ↓Z2y, ↓Z2w, ↓Z1e, ↓Z1f, ↓Z1d, Z4c, Z1a, ↓Z8a, ↓Z8b, ↓Z89, ↓Z78, ↓Z79, ↓Z77, ↓Z3e, ↓Z3c, ↓Z3d, Z5c, Z5b, Z5g, Z5e, Z5f, Z5d, ↓Z3y, ↓Z3z, ↓Z3x, Z3u, Z3w, Z3v, ↓Z7b, ↓Z7a, ↓Z7d, ↓Z7c, ↓Z1z, ↓Z1y, ↓Z21, ↓Z20, ↓Z6o, ↓Z6p, ↓Z4s, ↓Z4t, Z2p, ↓Z3o, ↓Z3p, Z3s, Z3n, Z3q, Z3r, Z5p, Z5q, Z5o, Z5n, Z5r, Z1n, Z1m, Z1l, Z1k, Z1j, Z1p, Z1g, Z1t, Z1o, Z1r, Z1s, Z1q, Z1h, Z1i, Z88, Z87, Z4d, Z4e, Z4f, Z5y, Z4b, Z4a, Z49, Z48, Z16, Z17, Z15, Z6a, Z6b, Z69, ↓Z68, ↓Z67, Z2q, Z22, Z23, Z25, Z24, Z60, Z5z, Z55, Z56, ↓Z1b, ↓Z1c, Z81, Z80, Z7x, Z84, Z7y, Z83, Z7z, Z82, Z86, Z85, Z5a, Z59, Z7w, Z7t, Z7v, Z7u, Z4r, Z4q, Z4p, Z62, Z61, Z6v, Z6y, Z6w, Z6x, Z40, Z41, Z74, Z72, Z73, Z6u, Z6t, Z2v, Z2u, Z5x, Z5w, Z2r, Z71, Z70, Z6d, Z6c, Z6k, Z6j, Z6l, Z6m, Z6i, Z6h, Z6g, Z6n, Z6f, Z6e, Z58, Z57, Z7p, Z7o, Z7q, Z7r, Z7n, Z7m, Z7l, Z7s, Z7k, Z7j, Z7h, Z7i, Z54, Z53, Z5m, Z11, Z4y, Z4z, Z4x, Z51, Z4w, Z4v, Z4u, Z50, Z12, Z75, Z76, Z43, Z42, Z4o, Z4n, Z4l, Z4m, Z19, Z18, Z29, Z2b, Z2a, Z28, Z2c, Z27, Z26, Z5t, Z3t, Z6r, ↓Z6s, ↓Z6q, Z2t, Z47, Z44, Z45, Z46, Z3m, Z3k, Z3l, Z3j, Z1v, Z1u, Z1w, Z1x, List.any_cons, List.any_nil, Bool.or_true, Bool.true_or, Bool.or_false, Bool.false_or, Bool.and_false, Bool.false_and, Nat.reduceBEq, Z5k, Z5j, Z5l, Z3f, ↓Z39, ↓Z3b, ↓Z3a, Z4i, Z4h, Z4g, Z5s, Nat.reduceLeDiff, Int.reduceLT, Int.reduceLE, Int.reduceAdd, Int.reduceToNat, Int.reduceNeg, Int.cast_ofNat_Int, Nat.reduceLT, List.drop_succ_cons, List.take_succ_cons, List.singleton_append, Nat.zero_add, List.set_cons_zero, List.set_cons_succ, List.drop_nil, List.take_nil, Option.map_some, Option.map_none, Option.getD_some, Option.getD_none, Option.bind_some, List.cons_append, List.nil_append, List.append_nil, List.map_cons, List.map_nil, List.range_zero, List.take_zero, List.flatten_nil, List.filter_nil, List.length_nil, List.length_cons, List.drop_zero, List.not_mem_nil, List.mem_cons, Bool.true_eq_false, Bool.false_eq_true, ↓reduceIte, Nat.reduceEqDiff, Nat.reduceAdd, List.getElem?_toArray, List.toList_toArray, List.getElem?_cons_zero, List.getElem?_cons_succ, decide_eq_true_eq, Z52, beq_self_eq_true, beq_true, decide_true, decide_false, Bool.not_true, Bool.not_false, true_and, and_true, or_false, false_or, Bool.and_eq_true, Bool.and_true, Bool.true_and, reduceCtorEq, not_false_eq_true, rv80, U3]
theorem isNaN_k (n : Int) (K : An → Prop) : CallK Tryd.prog (prB b) 80 [.of (ci n)] [] K ↔ K ⟨false, [xbool false], []⟩ := Gives.k (isNaN_call n) K
/-- Which of two numbers is the greater one. -/
def cmpI (m n : Int) : Int := if m < n then -1 else if m > n then 1 else 0
theorem cmp_call (m n : Int) : GB b 55 [xint m, xint n] (xint (cmpI m n)) := by
  refine by_body rfl ok55 body55 ar55 rfl ?_
  by_cases h1 : m < n
  · simp -implicitDefEqProofs only [Tryd.f55, Z2i, Z2n, Z2g, Z2h, Z2k, Z2l, Z2m, Z2j, Z2f, Z2d, Z2e, Z3i, Z3h, Z3g, Nat.zero_mul, Nat.reduceMul, Z4k, Z13, Z14, List.length_map, Z35, Z34, Z37, Z33, Z36, Z31, Z38, Z32, Z30, Z2z, Tk.nm.injEq, Tk.cell.injEq, false_and, and_false, Z2o, Z4j, Nat.le_add_right, Z5h, Z5i, Z6z, Nat.le_refl, Z5v, Z5u, Z2s, ↓Zx, ↓Zs, ↓Zt, ↓Zw, ↓Zy, ↓Zu, ↓Zv, ↓Zz, ↓Z10, ↓Zl, ↓Z2, ↓Zo, ↓Z3, ↓Zr, ↓Zg, ↓Zc, ↓Zb, ↓Ze, ↓Zd, ↓Zp, ↓Z9, ↓Za, ↓Zm, ↓Zi, ↓Z5, ↓Z6, ↓Zf, ↓Z1, ↓Z7, ↓Z8, ↓Z0, ↓Z4, ↓Zq, ↓Zh, ↓Zk, ↓Zj, ↓Zn, ↓Z64, ↓Z66, ↓Z63, ↓Z65, ↓Z7f, ↓Z7g, ↓Z7e, ↓Z2x, ↓Z2y, ↓Z2w, ↓Z1e, ↓Z1f, ↓Z1d, Z4c, Z1a, ↓Z8a, ↓Z8b, ↓Z89, ↓Z78, ↓Z79, ↓Z77, ↓Z3e, ↓Z3c, ↓Z3d, Z5c, Z5b, Z5g, Z5e, Z5f, Z5d, ↓Z3y, ↓Z3z, ↓Z3x, Z3u, Z3w, Z3v, ↓Z7b, ↓Z7a, ↓Z7d, ↓Z7c, ↓Z1z, ↓Z1y, ↓Z21, ↓Z20, ↓Z6o, ↓Z6p, ↓Z4s, ↓Z4t, Z2p, ↓Z3o, ↓Z3p, Z3s, Z3n, Z3q, Z3r, Z5p, Z5q, Z5o, Z5n, Z5r, Z1n, Z1m, Z1l, Z1k, Z1j, Z1p, Z1g, Z1t, Z1o, Z1r, Z1s, Z1q, Z1h, Z1i, Z88, Z87, Z4d, Z4e, Z4f, Z5y, Z4b, Z4a, Z49, Z48, Z16, Z17, Z15, Z6a, Z6b, Z69, ↓Z68, ↓Z67, Z2q, Z22, Z23, Z25, Z24, Z60, Z5z, Z55, Z56, ↓Z1b, ↓Z1c, Z81, Z80, Z7x, Z84, Z7y, Z83, Z7z, Z82, Z86, Z85, Z5a, Z59, Z7w, Z7t, Z7v, Z7u, Z4r, Z4q, Z4p, Z62, Z61, Z6v, Z6y, Z6w, Z6x, Z40, Z41, Z74, Z72, Z73, Z6u, Z6t, Z2v, Z2u, Z5x, Z5w, Z2r, Z71, Z70, Z6d, Z6c, Z6k, Z6j, Z6l, Z6m, Z6i, Z6h, Z6g, Z6n, Z6f, Z6e, Z58, Z57, Z7p, Z7o, Z7q, Z7r, Z7n, Z7m, Z7l, Z7s, Z7k, Z7j, Z7h, Z7i, Z54, Z53, Z5m, Z11, Z4y, Z4z, Z4x, Z51, Z4w, Z4v, Z4u, Z50, Z12, Z75, Z76, Z43, Z42, Z4o, Z4n, Z4l, Z4m, Z19, Z18, Z29, Z2b, Z2a, Z28, Z2c, Z27, Z26, Z5t, Z3t, Z6r, ↓Z6s, ↓Z6q, Z2t, Z47, Z44, Z45, Z46, Z3m, Z3k, Z3l, Z3j, Z1v, Z1u, Z1w, Z1x, List.any_cons, List.any_nil, Bool.or_true, Bool.true_or, Bool.or_false, Bool.false_or, Bool.and_false, Bool.false_and, Nat.reduceBEq, Z5k, Z5j, Z5l, Z3f, ↓Z39, ↓Z3b, ↓Z3a, Z4i, Z4h, Z4g, Z5s, Nat.reduceLeDiff, Int.reduceLT, Int.reduceLE, Int.reduceAdd, Int.reduceToNat, Int.reduceNeg, Int.cast_ofNat_Int, Nat.reduceLT, List.drop_succ_cons, List.take_succ_cons, List.singleton_append, Nat.zero_add, List.set_cons_zero, List.set_cons_succ, List.drop_nil, List.take_nil, Option.map_some, Option.map_none, Option.getD_some, Option.getD_none, Option.bind_some, List.cons_append, List.nil_append, List.append_nil, List.map_cons, List.map_nil, List.range_zero, List.take_zero, List.flatten_nil, List.filter_nil, List.length_nil, List.length_cons, List.drop_zero, List.not_mem_nil, List.mem_cons, Bool.true_eq_false, Bool.false_eq_true, ↓reduceIte, Nat.reduceEqDiff, Nat.reduceAdd, List.getElem?_toArray, List.toList_toArray, List.getElem?_cons_zero, List.getElem?_cons_succ, decide_eq_true_eq, Z52, beq_self_eq_true, beq_true, decide_true, decide_false, Bool.not_true, Bool.not_false, true_and, and_true, or_false, false_or, Bool.and_eq_true, Bool.and_true, Bool.true_and, reduceCtorEq, not_false_eq_true, rv55, U3, isNaN_k, pr_obj, obj80, call80, h1, cmpI]
  · by_cases h2 : m > n
    · simp -implicitDefEqProofs only [Tryd.f55, Z2i, Z2n, Z2g, Z2h, Z2k, Z2l, Z2m, Z2j, Z2f, Z2d, Z2e, Z3i, Z3h, Z3g, Nat.zero_mul, Nat.reduceMul, Z4k, Z13, Z14, List.length_map, Z35, Z34, Z37, Z33, Z36, Z31, Z38, Z32, Z30, Z2z, Tk.nm.injEq, Tk.cell.injEq, false_and, and_false, Z2o, Z4j, Nat.le_add_right, Z5h, Z5i, Z6z, Nat.le_refl, Z5v, Z5u, Z2s, ↓Zx, ↓Zs, ↓Zt, ↓Zw, ↓Zy, ↓Zu, ↓Zv, ↓Zz, ↓Z10, ↓Zl, ↓Z2, ↓Zo, ↓Z3, ↓Zr, ↓Zg, ↓Zc, ↓Zb, ↓Ze, ↓Zd, ↓Zp, ↓Z9, ↓Za, ↓Zm, ↓Zi, ↓Z5, ↓Z6, ↓Zf, ↓Z1, ↓Z7, ↓Z8, ↓Z0, ↓Z4, ↓Zq, ↓Zh, ↓Zk, ↓Zj, ↓Zn, ↓Z64, ↓Z66, ↓Z63, ↓Z65, ↓Z7f, ↓Z7g, ↓Z7e, ↓Z2x, ↓Z2y, ↓Z2w, ↓Z1e, ↓Z1f, ↓Z1d, Z4c, Z1a, ↓Z8a, ↓Z8b, ↓Z89, ↓Z78, ↓Z79, ↓Z77, ↓Z3e, ↓Z3c, ↓Z3d, Z5c, Z5b, Z5g, Z5e, Z5f, Z5d, ↓Z3y, ↓Z3z, ↓Z3x, Z3u, Z3w, Z3v, ↓Z7b, ↓Z7a, ↓Z7d, ↓Z7c, ↓Z1z, ↓Z1y, ↓Z21, ↓Z20, ↓Z6o, ↓Z6p, ↓Z4s, ↓Z4t, Z2p, ↓Z3o, ↓Z3p, Z3s, Z3n, Z3q, Z3r, Z5p, Z5q, Z5o, Z5n, Z5r, Z1n, Z1m, Z1l, Z1k, Z1j, Z1p, Z1g, Z1t, Z1o, Z1r, Z1s, Z1q, Z1h, Z1i, Z88, Z87, Z4d, Z4e, Z4f, Z5y, Z4b, Z4a, Z49, Z48, Z16, Z17, Z15, Z6a, Z6b, Z69, ↓Z68, ↓Z67, Z2q, Z22, Z23, Z25, Z24, Z60, Z5z, Z55, Z56, ↓Z1b, ↓Z1c, Z81, Z80, Z7x, Z84, Z7y, Z83, Z7z, Z82, Z86, Z85, Z5a, Z59, Z7w, Z7t, Z7v, Z7u, Z4r, Z4q, Z4p, Z62, Z61, Z6v, Z6y, Z6w, Z6x, Z40, Z41, Z74, Z72, Z73, Z6u, Z6t, Z2v, Z2u, Z5x, Z5w, Z2r, Z71, Z70, Z6d, Z6c, Z6k, Z6j, Z6l, Z6m, Z6i, Z6h, Z6g, Z6n, Z6f, Z6e, Z58, Z57, Z7p, Z7o, Z7q, Z7r, Z7n, Z7m, Z7l, Z7s, Z7k, Z7j, Z7h, Z7i, Z54, Z53, Z5m, Z11, Z4y, Z4z, Z4x, Z51, Z4w, Z4v, Z4u, Z50, Z12, Z75, Z76, Z43, Z42, Z4o, Z4n, Z4l, Z4m, Z19, Z18, Z29, Z2b, Z2a, Z28, Z2c, Z27, Z26, Z5t, Z3t, Z6r, ↓Z6s, ↓Z6q, Z2t, Z47, Z44, Z45, Z46, Z3m, Z3k, Z3l, Z3j, Z1v, Z1u, Z1w, Z1x, List.any_cons, List.any_nil, Bool.or_true, Bool.true_or, Bool.or_false, Bool.false_or, Bool.and_false, Bool.false_and, Nat.reduceBEq, Z5k, Z5j, Z5l, Z3f, ↓Z39, ↓Z3b, ↓Z3a, Z4i, Z4h, Z4g, Z5s, Nat.reduceLeDiff, Int.reduceLT, Int.reduceLE, Int.reduceAdd, Int.reduceToNat, Int.reduceNeg, Int.cast_ofNat_Int, Nat.reduceLT, List.drop_succ_cons, List.take_succ_cons, List.singleton_append, Nat.zero_add, List.set_cons_zero, List.set_cons_succ, List.drop_nil, List.take_nil, Option.map_some, Option.map_none, Option.getD_some, Option.getD_none, Option.bind_some, List.cons_append, List.nil_append, List.append_nil, List.map_cons, List.map_nil, List.range_zero, List.take_zero, List.flatten_nil, List.filter_nil, List.length_nil, List.length_cons, List.drop_zero, List.not_mem_nil, List.mem_cons, Bool.true_eq_false, Bool.false_eq_true, ↓reduceIte, Nat.reduceEqDiff, Nat.reduceAdd, List.getElem?_toArray, List.toList_toArray, List.getElem?_cons_zero, List.getElem?_cons_succ, decide_eq_true_eq, Z52, beq_self_eq_true, beq_true, decide_true, decide_false, Bool.not_true, Bool.not_false, true_and, and_true, or_false, false_or, Bool.and_eq_true, Bool.and_true, Bool.true_and, reduceCtorEq, not_false_eq_true, rv55, U3, isNaN_k, pr_obj, obj80, call80, h1, h2, cmpI]
    · simp -implicitDefEqProofs only [Tryd.f55, Z2i, Z2n, Z2g, Z2h, Z2k, Z2l, Z2m, Z2j, Z2f, Z2d, Z2e, Z3i, Z3h, Z3g, Nat.zero_mul, Nat.reduceMul, Z4k, Z13, Z14, List.length_map, Z35, Z34, Z37, Z33, Z36, Z31, Z38, Z32, Z30, Z2z, Tk.nm.injEq, Tk.cell.injEq, false_and, and_false, Z2o, Z4j, Nat.le_add_right, Z5h, Z5i, Z6z, Nat.le_refl, Z5v, Z5u, Z2s, ↓Zx, ↓Zs, ↓Zt, ↓Zw, ↓Zy, ↓Zu, ↓Zv, ↓Zz, ↓Z10, ↓Zl, ↓Z2, ↓Zo, ↓Z3, ↓Zr, ↓Zg, ↓Zc, ↓Zb, ↓Ze, ↓Zd, ↓Zp, ↓Z9, ↓Za, ↓Zm, ↓Zi, ↓Z5, ↓Z6, ↓Zf, ↓Z1, ↓Z7, ↓Z8, ↓Z0, ↓Z4, ↓Zq, ↓Zh, ↓Zk, ↓Zj, ↓Zn, ↓Z64, ↓Z66, ↓Z63, ↓Z65, ↓Z7f, ↓Z7g, ↓Z7e, ↓Z2x, ↓Z2y, ↓Z2w, ↓Z1e, ↓Z1f, ↓Z1d, Z4c, Z1a, ↓Z8a, ↓Z8b, ↓Z89, ↓Z78, ↓Z79, ↓Z77, ↓Z3e, ↓Z3c, ↓Z3d, Z5c, Z5b, Z5g, Z5e, Z5f, Z5d, ↓Z3y, ↓Z3z, ↓Z3x, Z3u, Z3w, Z3v, ↓Z7b, ↓Z7a, ↓Z7d, ↓Z7c, ↓Z1z, ↓Z1y, ↓Z21, ↓Z20, ↓Z6o, ↓Z6p, ↓Z4s, ↓Z4t, Z2p, ↓Z3o, ↓Z3p, Z3s, Z3n, Z3q, Z3r, Z5p, Z5q, Z5o, Z5n, Z5r, Z1n, Z1m, Z1l, Z1k, Z1j, Z1p, Z1g, Z1t, Z1o, Z1r, Z1s, Z1q, Z1h, Z1i, Z88, Z87, Z4d, Z4e, Z4f, Z5y, Z4b, Z4a, Z49, Z48, Z16, Z17, Z15, Z6a, Z6b, Z69, ↓Z68, ↓Z67, Z2q, Z22, Z23, Z25, Z24, Z60, Z5z, Z55, Z56, ↓Z1b, ↓Z1c, Z81, Z80, Z7x, Z84, Z7y, Z83, Z7z, Z82, Z86, Z85, Z5a, Z59, Z7w, Z7t, Z7v, Z7u, Z4r, Z4q, Z4p, Z62, Z61, Z6v, Z6y, Z6w, Z6x, Z40, Z41, Z74, Z72, Z73, Z6u, Z6t, Z2v, Z2u, Z5x, Z5w, Z2r, Z71, Z70, Z6d, Z6c, Z6k, Z6j, Z6l, Z6m, Z6i, Z6h, Z6g, Z6n, Z6f, Z6e, Z58, Z57, Z7p, Z7o, Z7q, Z7r, Z7n, Z7m, Z7l, Z7s, Z7k, Z7j, Z7h, Z7i, Z54, Z53, Z5m, Z11, Z4y, Z4z, Z4x, Z51, Z4w, Z4v, Z4u, Z50, Z12, Z75, Z76, Z43, Z42, Z4o, Z4n, Z4l, Z4m, Z19, Z18, Z29, Z2b, Z2a, Z28, Z2c, Z27, Z26, Z5t, Z3t, Z6r, ↓Z6s, ↓Z6q, Z2t, Z47, Z44, Z45, Z46, Z3m, Z3k, Z3l, Z3j, Z1v, Z1u, Z1w, Z1x, List.any_cons, List.any_nil, Bool.or_true, Bool.true_or, Bool.or_false, Bool.false_or, Bool.and_false, Bool.false_and, Nat.reduceBEq, Z5k, Z5j, Z5l, Z3f, ↓Z39, ↓Z3b, ↓Z3a, Z4i, Z4h, Z4g, Z5s, Nat.reduceLeDiff, Int.reduceLT, Int.reduceLE, Int.reduceAdd, Int.reduceToNat, Int.reduceNeg, Int.cast_ofNat_Int, Nat.reduceLT, List.drop_succ_cons, List.take_succ_cons, List.singleton_append, Nat.zero_add, List.set_cons_zero, List.set_cons_succ, List.drop_nil, List.take_nil, Option.map_some, Option.map_none, Option.getD_some, Option.getD_none, Option.bind_some, List.cons_append, List.nil_append, List.append_nil, List.map_cons, List.map_nil, List.range_zero, List.take_zero, List.flatten_nil, List.filter_nil, List.length_nil, List.length_cons, List.drop_zero, List.not_mem_nil, List.mem_cons, Bool.true_eq_false, Bool.false_eq_true, ↓reduceIte, Nat.reduceEqDiff, Nat.reduceAdd, List.getElem?_toArray, List.toList_toArray, List.getElem?_cons_zero, List.getElem?_cons_succ, decide_eq_true_eq, Z52, beq_self_eq_true, beq_true, decide_true, decide_false, Bool.not_true, Bool.not_false, true_and, and_true, or_false, false_or, Bool.and_eq_true, Bool.and_true, Bool.true_and, reduceCtorEq, not_false_eq_true, rv55, U3, isNaN_k, pr_obj, obj80, call80, h1, h2, cmpI]
theorem cmp_k (m n : Int) (K : An → Prop) : CallK Tryd.prog (prB b) 55 [.of (ci m), .of (ci n)] [] K ↔ K ⟨false, [xint (cmpI m n)], []⟩ := Gives.k (cmp_call m n) K

/-- The first one that is not zero. -/
def orL : List Int → Int
  | [] => 0
  | a :: l => if a = 0 then orL l else a
theorem orL_drop (l : List Int) (k : Nat) (h : k < l.length) : orL (l.drop k) = if l[k] = 0 then orL (l.drop (k + 1)) else l[k] := by
  rw [List.drop_eq_getElem_cons h]; rfl
def intsC (l : List Int) : C := .sl (l.map ci) l.length
theorem len_ints (l : List Int) : lenX (some (.slice 3)) (.of (intsC l)) = out (xint l.length) := rfl
theorem ia_ints (l : List Int) (k : Nat) (h : k < l.length) : indexAddrX (TT.of Tryd.prog) 76 (.of (intsC l)) (xint k) = out (.of (.ref ((l.map ci).drop k))) := by
  rw [indexAddr_sl E76 (l.map ci) l.length k _ rfl]
  rw [if_pos ⟨by omega, by omega, by simp, by decide⟩]
  simp
theorem ld_ints (l : List Int) (k : Nat) (h : k < l.length) (objs : List Ob) : loadX (TT.of Tryd.prog) objs 3 (.of (.ref ((l.map ci).drop k))) = out (xint l[k]) := by
  rw [Z4i, drop_getD (by simpa using h)]
  simp [pieceC, T3, outO, out]
theorem Or_call (l : List Int) (hl : l.length ≤ 1048576) : GB b 63 [.of (intsC l)] (xint (orL l)) := by
  refine by_body rfl ok63 body63 ar63 rfl ?_
  simp -implicitDefEqProofs only [Tryd.f63, Z2i, Z2n, Z2g, Z2h, Z2k, Z2l, Z2m, Z2j, Z2f, Z2d, Z2e, Z3i, Z3h, Z3g, Nat.zero_mul, Nat.reduceMul, Z4k, Z13, Z14, List.length_map, Z35, Z34, Z37, Z33, Z36, Z31, Z38, Z32, Z30, Z2z, Tk.nm.injEq, Tk.cell.injEq, false_and, and_false, Z2o, Z4j, Nat.le_add_right, Z5h, Z5i, Z6z, Nat.le_refl, Z5v, Z5u, Z2s, ↓Zx, ↓Zs, ↓Zt, ↓Zw, ↓Zy, ↓Zu, ↓Zv, ↓Zz, ↓Z10, ↓Zl, ↓Z2, ↓Zo, ↓Z3, ↓Zr, ↓Zg, ↓Zc, ↓Zb, ↓Ze, ↓Zd, ↓Zp, ↓Z9, ↓Za, ↓Zm, ↓Zi, ↓Z5, ↓Z6, ↓Zf, ↓Z1, ↓Z7, ↓Z8, ↓Z0, ↓Z4, ↓Zq, ↓Zh, ↓Zk, ↓Zj, ↓Zn, ↓Z64, ↓Z66, ↓Z63, ↓Z65, ↓Z7f, ↓Z7g, ↓Z7e, ↓Z2x, ↓Z2y, ↓Z2w, ↓Z1e, ↓Z1f, ↓Z1d, Z4c, Z1a, ↓Z8a, ↓Z8b, ↓Z89, ↓Z78, ↓Z79, ↓Z77, ↓Z3e, ↓Z3c, ↓Z3d, Z5c, Z5b, Z5g, Z5e, Z5f, Z5d, ↓Z3y, ↓Z3z, ↓Z3x, Z3u, Z3w, Z3v, ↓Z7b, ↓Z7a, ↓Z7d, ↓Z7c, ↓Z1z, ↓Z1y, ↓Z21, ↓Z20, ↓Z6o, ↓Z6p, ↓Z4s, ↓Z4t, Z2p, ↓Z3o, ↓Z3p, Z3s, Z3n, Z3q, Z3r, Z5p, Z5q, Z5o, Z5n, Z5r, Z1n, Z1m, Z1l, Z1k, Z1j, Z1p, Z1g, Z1t, Z1o, Z1r, Z1s, Z1q, Z1h, Z1i, Z88, Z87, Z4d, Z4e, Z4f, Z5y, Z4b, Z4a, Z49, Z48, Z16, Z17, Z15, Z6a, Z6b, Z69, ↓Z68, ↓Z67, Z2q, Z22, Z23, Z25, Z24, Z60, Z5z, Z55, Z56, ↓Z1b, ↓Z1c, Z81, Z80, Z7x, Z84, Z7y, Z83, Z7z, Z82, Z86, Z85, Z5a, Z59, Z7w, Z7t, Z7v, Z7u, Z4r, Z4q, Z4p, Z62, Z61, Z6v, Z6y, Z6w, Z6x, Z40, Z41, Z74, Z72, Z73, Z6u, Z6t, Z2v, Z2u, Z5x, Z5w, Z2r, Z71, Z70, Z6d, Z6c, Z6k, Z6j, Z6l, Z6m, Z6i, Z6h, Z6g, Z6n, Z6f, Z6e, Z58, Z57, Z7p, Z7o, Z7q, Z7r, Z7n, Z7m, Z7l, Z7s, Z7k, Z7j, Z7h, Z7i, Z54, Z53, Z5m, Z11, Z4y, Z4z, Z4x, Z51, Z4w, Z4v, Z4u, Z50, Z12, Z75, Z76, Z43, Z42, Z4o, Z4n, Z4l, Z4m, Z19, Z18, Z29, Z2b, Z2a, Z28, Z2c, Z27, Z26, Z5t, Z3t, Z6r, ↓Z6s, ↓Z6q, Z2t, Z47, Z44, Z45, Z46, Z3m, Z3k, Z3l, Z3j, Z1v, Z1u, Z1w, Z1x, List.any_cons, List.any_nil, Bool.or_true, Bool.true_or, Bool.or_false, Bool.false_or, Bool.and_false, Bool.false_and, Nat.reduceBEq, Z5k, Z5j, Z5l, Z3f, ↓Z39, ↓Z3b, ↓Z3a, Z4i, Z4h, Z4g, Z5s, Nat.reduceLeDiff, Int.reduceLT, Int.reduceLE, Int.reduceAdd, Int.reduceToNat, Int.reduceNeg, Int.cast_ofNat_Int, Nat.reduceLT, List.drop_succ_cons, List.take_succ_cons, List.singleton_append, Nat.zero_add, List.set_cons_zero, List.set_cons_succ, List.drop_nil, List.take_nil, Option.map_some, Option.map_none, Option.getD_some, Option.getD_none, Option.bind_some, List.cons_append, List.nil_append, List.append_nil, List.map_cons, List.map_nil, List.range_zero, List.take_zero, List.flatten_nil, List.filter_nil, List.length_nil, List.length_cons, List.drop_zero, List.not_mem_nil, List.mem_cons, Bool.true_eq_false, Bool.false_eq_true, ↓reduceIte, Nat.reduceEqDiff, Nat.reduceAdd, List.getElem?_toArray, List.toList_toArray, List.getElem?_cons_zero, List.getElem?_cons_succ, decide_eq_true_eq, Z52, beq_self_eq_true, beq_true, decide_true, decide_false, Bool.not_true, Bool.not_false, true_and, and_true, or_false, false_or, Bool.and_eq_true, Bool.and_true, Bool.true_and, reduceCtorEq, not_false_eq_true, rv63, U76, len_ints]
  refine WC_inv _ _ (fun m s => ∃ k : Nat, k ≤ l.length ∧ m = l.length - k ∧ s.fr 6 = .of (intsC l) ∧ s.fr 7 = xint l.length ∧ s.fr 8 = xint k ∧ s.fr 3 = xint 0 ∧ s.objs = [] ∧ orL l = orL (l.drop k)) ?_ l.length _ ?_
  · rintro m s ⟨k, hk1, rfl, h6, h7, h8, h3, ho, hor⟩
    have hw := wrapS k (by omega)
    by_cases c1 : k < l.length
    · rw [orL_drop l k c1] at hor
      by_cases c2 : l[k] = 0
      · rw [if_pos c2] at hor
        simp -implicitDefEqProofs only [Z2i, Z2n, Z2g, Z2h, Z2k, Z2l, Z2m, Z2j, Z2f, Z2d, Z2e, Z3i, Z3h, Z3g, Nat.zero_mul, Nat.reduceMul, Z4k, Z13, Z14, List.length_map, Z35, Z34, Z37, Z33, Z36, Z31, Z38, Z32, Z30, Z2z, Tk.nm.injEq, Tk.cell.injEq, false_and, and_false, Z2o, Z4j, Nat.le_add_right, Z5h, Z5i, Z6z, Nat.le_refl, Z5v, Z5u, Z2s, ↓Zx, ↓Zs, ↓Zt, ↓Zw, ↓Zy, ↓Zu, ↓Zv, ↓Zz, ↓Z10, ↓Zl, ↓Z2, ↓Zo, ↓Z3, ↓Zr, ↓Zg, ↓Zc, ↓Zb, ↓Ze, ↓Zd, ↓Zp, ↓Z9, ↓Za, ↓Zm, ↓Zi, ↓Z5, ↓Z6, ↓Zf, ↓Z1, ↓Z7, ↓Z8, ↓Z0, ↓Z4, ↓Zq, ↓Zh, ↓Zk, ↓Zj, ↓Zn, ↓Z64, ↓Z66, ↓Z63, ↓Z65, ↓Z7f, ↓Z7g, ↓Z7e, ↓Z2x, ↓Z2y, ↓Z2w, ↓Z1e, ↓Z1f, ↓Z1d, Z4c, Z1a, ↓Z8a, ↓Z8b, ↓Z89, ↓Z78, ↓Z79, ↓Z77, ↓Z3e, ↓Z3c, ↓Z3d, Z5c, Z5b, Z5g, Z5e, Z5f, Z5d, ↓Z3y, ↓Z3z, ↓Z3x, Z3u, Z3w, Z3v, ↓Z7b, ↓Z7a, ↓Z7d, ↓Z7c, ↓Z1z, ↓Z1y, ↓Z21, ↓Z20, ↓Z6o, ↓Z6p, ↓Z4s, ↓Z4t, Z2p, ↓Z3o, ↓Z3p, Z3s, Z3n, Z3q, Z3r, Z5p, Z5q, Z5o, Z5n, Z5r, Z1n, Z1m, Z1l, Z1k, Z1j, Z1p, Z1g, Z1t, Z1o, Z1r, Z1s, Z1q, Z1h, Z1i, Z88, Z87, Z4d, Z4e, Z4f, Z5y, Z4b, Z4a, Z49, Z48, Z16, Z17, Z15, Z6a, Z6b, Z69, ↓Z68, ↓Z67, Z2q, Z22, Z23, Z25, Z24, Z60, Z5z, Z55, Z56, ↓Z1b, ↓Z1c, Z81, Z80, Z7x, Z84, Z7y, Z83, Z7z, Z82, Z86, Z85, Z5a, Z59, Z7w, Z7t, Z7v, Z7u, Z4r, Z4q, Z4p, Z62, Z61, Z6v, Z6y, Z6w, Z6x, Z40, Z41, Z74, Z72, Z73, Z6u, Z6t, Z2v, Z2u, Z5x, Z5w, Z2r, Z71, Z70, Z6d, Z6c, Z6k, Z6j, Z6l, Z6m, Z6i, Z6h, Z6g, Z6n, Z6f, Z6e, Z58, Z57, Z7p, Z7o, Z7q, Z7r, Z7n, Z7m, Z7l, Z7s, Z7k, Z7j, Z7h, Z7i, Z54, Z53, Z5m, Z11, Z4y, Z4z, Z4x, Z51, Z4w, Z4v, Z4u, Z50, Z12, Z75, Z76, Z43, Z42, Z4o, Z4n, Z4l, Z4m, Z19, Z18, Z29, Z2b, Z2a, Z28, Z2c, Z27, Z26, Z5t, Z3t, Z6r, ↓Z6s, ↓Z6q, Z2t, Z47, Z44, Z45, Z46, Z3m, Z3k, Z3l, Z3j, Z1v, Z1u, Z1w, Z1x, List.any_cons, List.any_nil, Bool.or_true, Bool.true_or, Bool.or_false, Bool.false_or, Bool.and_false, Bool.false_and, Nat.reduceBEq, Z5k, Z5j, Z5l, Z3f, ↓Z39, ↓Z3b, ↓Z3a, Z4i, Z4h, Z4g, Z5s, Nat.reduceLeDiff, Int.reduceLT, Int.reduceLE, Int.reduceAdd, Int.reduceToNat, Int.reduceNeg, Int.cast_ofNat_Int, Nat.reduceLT, List.drop_succ_cons, List.take_succ_cons, List.singleton_append, Nat.zero_add, List.set_cons_zero, List.set_cons_succ, List.drop_nil, List.take_nil, Option.map_some, Option.map_none, Option.getD_some, Option.getD_none, Option.bind_some, List.cons_append, List.nil_append, List.append_nil, List.map_cons, List.map_nil, List.range_zero, List.take_zero, List.flatten_nil, List.filter_nil, List.length_nil, List.length_cons, List.drop_zero, List.not_mem_nil, List.mem_cons, Bool.true_eq_false, Bool.false_eq_true, ↓reduceIte, Nat.reduceEqDiff, Nat.reduceAdd, List.getElem?_toArray, List.toList_toArray, List.getElem?_cons_zero, List.getElem?_cons_succ, decide_eq_true_eq, Z52, beq_self_eq_true, beq_true, decide_true, decide_false, Bool.not_true, Bool.not_false, true_and, and_true, or_false, false_or, Bool.and_eq_true, Bool.and_true, Bool.true_and, reduceCtorEq, not_false_eq_true, h3, h6, h7, h8, ho, U3, ia_ints l k c1, ld_ints l k c1, Int.ofNat_lt, c1, c2, hw]
        exact ⟨_, by omega, k + 1, by omega, rfl, rfl, hor⟩
      · rw [if_neg c2] at hor
        simp -implicitDefEqProofs only [Z2i, Z2n, Z2g, Z2h, Z2k, Z2l, Z2m, Z2j, Z2f, Z2d, Z2e, Z3i, Z3h, Z3g, Nat.zero_mul, Nat.reduceMul, Z4k, Z13, Z14, List.length_map, Z35, Z34, Z37, Z33, Z36, Z31, Z38, Z32, Z30, Z2z, Tk.nm.injEq, Tk.cell.injEq, false_and, and_false, Z2o, Z4j, Nat.le_add_right, Z5h, Z5i, Z6z, Nat.le_refl, Z5v, Z5u, Z2s, ↓Zx, ↓Zs, ↓Zt, ↓Zw, ↓Zy, ↓Zu, ↓Zv, ↓Zz, ↓Z10, ↓Zl, ↓Z2, ↓Zo, ↓Z3, ↓Zr, ↓Zg, ↓Zc, ↓Zb, ↓Ze, ↓Zd, ↓Zp, ↓Z9, ↓Za, ↓Zm, ↓Zi, ↓Z5, ↓Z6, ↓Zf, ↓Z1, ↓Z7, ↓Z8, ↓Z0, ↓Z4, ↓Zq, ↓Zh, ↓Zk, ↓Zj, ↓Zn, ↓Z64, ↓Z66, ↓Z63, ↓Z65, ↓Z7f, ↓Z7g, ↓Z7e, ↓Z2x, ↓Z2y, ↓Z2w, ↓Z1e, ↓Z1f, ↓Z1d, Z4c, Z1a, ↓Z8a, ↓Z8b, ↓Z89, ↓Z78, ↓Z79, ↓Z77, ↓Z3e, ↓Z3c, ↓Z3d, Z5c, Z5b, Z5g, Z5e, Z5f, Z5d, ↓Z3y, ↓Z3z, ↓Z3x, Z3u, Z3w, Z3v, ↓Z7b, ↓Z7a, ↓Z7d, ↓Z7c, ↓Z1z, ↓Z1y, ↓Z21, ↓Z20, ↓Z6o, ↓Z6p, ↓Z4s, ↓Z4t, Z2p, ↓Z3o, ↓Z3p, Z3s, Z3n, Z3q, Z3r, Z5p, Z5q, Z5o, Z5n, Z5r, Z1n, Z1m, Z1l, Z1k, Z1j, Z1p, Z1g, Z1t, Z1o, Z1r, Z1s, Z1q, Z1h, Z1i, Z88, Z87, Z4d, Z4e, Z4f, Z5y, Z4b, Z4a, Z49, Z48, Z16, Z17, Z15, Z6a, Z6b, Z69, ↓Z68, ↓Z67, Z2q, Z22, Z23, Z25, Z24, Z60, Z5z, Z55, Z56, ↓Z1b, ↓Z1c, Z81, Z80, Z7x, Z84, Z7y, Z83, Z7z, Z82, Z86, Z85, Z5a, Z59, Z7w, Z7t, Z7v, Z7u, Z4r, Z4q, Z4p, Z62, Z61, Z6v, Z6y, Z6w, Z6x, Z40, Z41, Z74, Z72, Z73, Z6u, Z6t, Z2v, Z2u, Z5x, Z5w, Z2r, Z71, Z70, Z6d, Z6c, Z6k, Z6j, Z6l, Z6m, Z6i, Z6h, Z6g, Z6n, Z6f, Z6e, Z58, Z57, Z7p, Z7o, Z7q, Z7r, Z7n, Z7m, Z7l, Z7s, Z7k, Z7j, Z7h, Z7i, Z54, Z53, Z5m, Z11, Z4y, Z4z, Z4x, Z51, Z4w, Z4v, Z4u, Z50, Z12, Z75, Z76, Z43, Z42, Z4o, Z4n, Z4l, Z4m, Z19, Z18, Z29, Z2b, Z2a, Z28, Z2c, Z27, Z26, Z5t, Z3t, Z6r, ↓Z6s, ↓Z6q, Z2t, Z47, Z44, Z45, Z46, Z3m, Z3k, Z3l, Z3j, Z1v, Z1u, Z1w, Z1x, List.any_cons, List.any_nil, Bool.or_true, Bool.true_or, Bool.or_false, Bool.false_or, Bool.and_false, Bool.false_and, Nat.reduceBEq, Z5k, Z5j, Z5l, Z3f, ↓Z39, ↓Z3b, ↓Z3a, Z4i, Z4h, Z4g, Z5s, Nat.reduceLeDiff, Int.reduceLT, Int.reduceLE, Int.reduceAdd, Int.reduceToNat, Int.reduceNeg, Int.cast_ofNat_Int, Nat.reduceLT, List.drop_succ_cons, List.take_succ_cons, List.singleton_append, Nat.zero_add, List.set_cons_zero, List.set_cons_succ, List.drop_nil, List.take_nil, Option.map_some, Option.map_none, Option.getD_some, Option.getD_none, Option.bind_some, List.cons_append, List.nil_append, List.append_nil, List.map_cons, List.map_nil, List.range_zero, List.take_zero, List.flatten_nil, List.filter_nil, List.length_nil, List.length_cons, List.drop_zero, List.not_mem_nil, List.mem_cons, Bool.true_eq_false, Bool.false_eq_true, ↓reduceIte, Nat.reduceEqDiff, Nat.reduceAdd, List.getElem?_toArray, List.toList_toArray, List.getElem?_cons_zero, List.getElem?_cons_succ, decide_eq_true_eq, Z52, beq_self_eq_true, beq_true, decide_true, decide_false, Bool.not_true, Bool.not_false, true_and, and_true, or_false, false_or, Bool.and_eq_true, Bool.and_true, Bool.true_and, reduceCtorEq, not_false_eq_true, h3, h6, h7, h8, ho, U3, ia_ints l k c1, ld_ints l k c1, Int.ofNat_lt, c1, c2, hw, rv63, Tryd.f63, hor]
    · rw [List.drop_eq_nil_of_le (by omega)] at hor
      simp -implicitDefEqProofs only [Z2i, Z2n, Z2g, Z2h, Z2k, Z2l, Z2m, Z2j, Z2f, Z2d, Z2e, Z3i, Z3h, Z3g, Nat.zero_mul, Nat.reduceMul, Z4k, Z13, Z14, List.length_map, Z35, Z34, Z37, Z33, Z36, Z31, Z38, Z32, Z30, Z2z, Tk.nm.injEq, Tk.cell.injEq, false_and, and_false, Z2o, Z4j, Nat.le_add_right, Z5h, Z5i, Z6z, Nat.le_refl, Z5v, Z5u, Z2s, ↓Zx, ↓Zs, ↓Zt, ↓Zw, ↓Zy, ↓Zu, ↓Zv, ↓Zz, ↓Z10, ↓Zl, ↓Z2, ↓Zo, ↓Z3, ↓Zr, ↓Zg, ↓Zc, ↓Zb, ↓Ze, ↓Zd, ↓Zp, ↓Z9, ↓Za, ↓Zm, ↓Zi, ↓Z5, ↓Z6, ↓Zf, ↓Z1, ↓Z7, ↓Z8, ↓Z0, ↓Z4, ↓Zq, ↓Zh, ↓Zk, ↓Zj, ↓Zn, ↓Z64, ↓Z66, ↓Z63, ↓Z65, ↓Z7f, ↓Z7g, ↓Z7e, ↓Z2x, ↓Z2y, ↓Z2w, ↓Z1e, ↓Z1f, ↓Z1d, Z4c, Z1a, ↓Z8a, ↓Z8b, ↓Z89, ↓Z78, ↓Z79, ↓Z77, ↓Z3e, ↓Z3c, ↓Z3d, Z5c, Z5b, Z5g, Z5e, Z5f, Z5d, ↓Z3y, ↓Z3z, ↓Z3x, Z3u, Z3w, Z3v, ↓Z7b, ↓Z7a, ↓Z7d, ↓Z7c, ↓Z1z, ↓Z1y, ↓Z21, ↓Z20, ↓Z6o, ↓Z6p, ↓Z4s, ↓Z4t, Z2p, ↓Z3o, ↓Z3p, Z3s, Z3n, Z3q, Z3r, Z5p, Z5q, Z5o, Z5n, Z5r, Z1n, Z1m, Z1l, Z1k, Z1j, Z1p, Z1g, Z1t, Z1o, Z1r, Z1s, Z1q, Z1h, Z1i, Z88, Z87, Z4d, Z4e, Z4f, Z5y, Z4b, Z4a, Z49, Z48, Z16, Z17, Z15, Z6a, Z6b, Z69, ↓Z68, ↓Z67, Z2q, Z22, Z23, Z25, Z24, Z60, Z5z, Z55, Z56, ↓Z1b, ↓Z1c, Z81, Z80, Z7x, Z84, Z7y, Z83, Z7z, Z82, Z86, Z85, Z5a, Z59, Z7w, Z7t, Z7v, Z7u, Z4r, Z4q, Z4p, Z62, Z61, Z6v, Z6y, Z6w, Z6x, Z40, Z41, Z74, Z72, Z73, Z6u, Z6t, Z2v, Z2u, Z5x, Z5w, Z2r, Z71, Z70, Z6d, Z6c, Z6k, Z6j, Z6l, Z6m, Z6i, Z6h, Z6g, Z6n, Z6f, Z6e, Z58, Z57, Z7p, Z7o, Z7q, Z7r, Z7n, Z7m, Z7l, Z7s, Z7k, Z7j, Z7h, Z7i, Z54, Z53, Z5m, Z11, Z4y, Z4z, Z4x, Z51, Z4w, Z4v, Z4u, Z50, Z12, Z75, Z76, Z43, Z42, Z4o, Z4n, Z4l, Z4m, Z19, Z18, Z29, Z2b, Z2a, Z28, Z2c, Z27, Z26, Z5t, Z3t, Z6r, ↓Z6s, ↓Z6q, Z2t, Z47, Z44, Z45, Z46, Z3m, Z3k, Z3l, Z3j, Z1v, Z1u, Z1w, Z1x, List.any_cons, List.any_nil, Bool.or_true, Bool.true_or, Bool.or_false, Bool.false_or, Bool.and_false, Bool.false_and, Nat.reduceBEq, Z5k, Z5j, Z5l, Z3f, ↓Z39, ↓Z3b, ↓Z3a, Z4i, Z4h, Z4g, Z5s, Nat.reduceLeDiff, Int.reduceLT, Int.reduceLE, Int.reduceAdd, Int.reduceToNat, Int.reduceNeg, Int.cast_ofNat_Int, Nat.reduceLT, List.drop_succ_cons, List.take_succ_cons, List.singleton_append, Nat.zero_add, List.set_cons_zero, List.set_cons_succ, List.drop_nil, List.take_nil, Option.map_some, Option.map_none, Option.getD_some, Option.getD_none, Option.bind_some, List.cons_append, List.nil_append, List.append_nil, List.map_cons, List.map_nil, List.range_zero, List.take_zero, List.flatten_nil, List.filter_nil, List.length_nil, List.length_cons, List.drop_zero, List.not_mem_nil, List.mem_cons, Bool.true_eq_false, Bool.false_eq_true, ↓reduceIte, Nat.reduceEqDiff, Nat.reduceAdd, List.getElem?_toArray, List.toList_toArray, List.getElem?_cons_zero, List.getElem?_cons_succ, decide_eq_true_eq, Z52, beq_self_eq_true, beq_true, decide_true, decide_false, Bool.not_true, Bool.not_false, true_and, and_true, or_false, false_or, Bool.and_eq_true, Bool.and_true, Bool.true_and, reduceCtorEq, not_false_eq_true, h3, h6, h7, h8, ho, U3, Int.ofNat_lt, c1, rv63, Tryd.f63, hor]
      rfl
  · exact ⟨0, by omega, by omega, by simp -implicitDefEqProofs only [Z2i, Z2n, Z2g, Z2h, Z2k, Z2l, Z2m, Z2j, Z2f, Z2d, Z2e, Z3i, Z3h, Z3g, Nat.zero_mul, Nat.reduceMul, Z4k, Z13, Z14, List.length_map, Z35, Z34, Z37, Z33, Z36, Z31, Z38, Z32, Z30, Z2z, Tk.nm.injEq, Tk.cell.injEq, false_and, and_false, Z2o, Z4j, Nat.le_add_right, Z5h, Z5i, Z6z, Nat.le_refl, Z5v, Z5u, Z2s, ↓Zx, ↓Zs, ↓Zt, ↓Zw, ↓Zy, ↓Zu, ↓Zv, ↓Zz, ↓Z10, ↓Zl, ↓Z2, ↓Zo, ↓Z3, ↓Zr, ↓Zg, ↓Zc, ↓Zb, ↓Ze, ↓Zd, ↓Zp, ↓Z9, ↓Za, ↓Zm, ↓Zi, ↓Z5, ↓Z6, ↓Zf, ↓Z1, ↓Z7, ↓Z8, ↓Z0, ↓Z4, ↓Zq, ↓Zh, ↓Zk, ↓Zj, ↓Zn, ↓Z64, ↓Z66, ↓Z63, ↓Z65, ↓Z7f, ↓Z7g, ↓Z7e, ↓Z2x, ↓Z2y, ↓Z2w, ↓Z1e, ↓Z1f, ↓Z1d, Z4c, Z1a, ↓Z8a, ↓Z8b, ↓Z89, ↓Z78, ↓Z79, ↓Z77, ↓Z3e, ↓Z3c, ↓Z3d, Z5c, Z5b, Z5g, Z5e, Z5f, Z5d, ↓Z3y, ↓Z3z, ↓Z3x, Z3u, Z3w, Z3v, ↓Z7b, ↓Z7a, ↓Z7d, ↓Z7c, ↓Z1z, ↓Z1y, ↓Z21, ↓Z20, ↓Z6o, ↓Z6p, ↓Z4s, ↓Z4t, Z2p, ↓Z3o, ↓Z3p, Z3s, Z3n, Z3q, Z3r, Z5p, Z5q, Z5o, Z5n, Z5r, Z1n, Z1m, Z1l, Z1k, Z1j, Z1p, Z1g, Z1t, Z1o, Z1r, Z1s, Z1q, Z1h, Z1i, Z88, Z87, Z4d, Z4e, Z4f, Z5y, Z4b, Z4a, Z49, Z48, Z16, Z17, Z15, Z6a, Z6b, Z69, ↓Z68, ↓Z67, Z2q, Z22, Z23, Z25, Z24, Z60, Z5z, Z55, Z56, ↓Z1b, ↓Z1c, Z81, Z80, Z7x, Z84, Z7y, Z83, Z7z, Z82, Z86, Z85, Z5a, Z59, Z7w, Z7t, Z7v, Z7u, Z4r, Z4q, Z4p, Z62, Z61, Z6v, Z6y, Z6w, Z6x, Z40, Z41, Z74, Z72, Z73, Z6u, Z6t, Z2v, Z2u, Z5x, Z5w, Z2r, Z71, Z70, Z6d, Z6c, Z6k, Z6j, Z6l, Z6m, Z6i, Z6h, Z6g, Z6n, Z6f, Z6e, Z58, Z57, Z7p, Z7o, Z7q, Z7r, Z7n, Z7m, Z7l, Z7s, Z7k, Z7j, Z7h, Z7i, Z54, Z53, Z5m, Z11, Z4y, Z4z, Z4x, Z51, Z4w, Z4v, Z4u, Z50, Z12, Z75, Z76, Z43, Z42, Z4o, Z4n, Z4l, Z4m, Z19, Z18, Z29, Z2b, Z2a, Z28, Z2c, Z27, Z26, Z5t, Z3t, Z6r, ↓Z6s, ↓Z6q, Z2t, Z47, Z44, Z45, Z46, Z3m, Z3k, Z3l, Z3j, Z1v, Z1u, Z1w, Z1x, List.any_cons, List.any_nil, Bool.or_true, Bool.true_or, Bool.or_false, Bool.false_or, Bool.and_false, Bool.false_and, Nat.reduceBEq, Z5k, Z5j, Z5l, Z3f, ↓Z39, ↓Z3b, ↓Z3a, Z4i, Z4h, Z4g, Z5s, Nat.reduceLeDiff, Int.reduceLT, Int.reduceLE, Int.reduceAdd, Int.reduceToNat, Int.reduceNeg, Int.cast_ofNat_Int, Nat.reduceLT, List.drop_succ_cons, List.take_succ_cons, List.singleton_append, Nat.zero_add, List.set_cons_zero, List.set_cons_succ, List.drop_nil, List.take_nil, Option.map_some, Option.map_none, Option.getD_some, Option.getD_none, Option.bind_some, List.cons_append, List.nil_append, List.append_nil, List.map_cons, List.map_nil, List.range_zero, List.take_zero, List.flatten_nil, List.filter_nil, List.length_nil, List.length_cons, List.drop_zero, List.not_mem_nil, List.mem_cons, Bool.true_eq_false, Bool.false_eq_true, ↓reduceIte, Nat.reduceEqDiff, Nat.reduceAdd, List.getElem?_toArray, List.toList_toArray, List.getElem?_cons_zero, List.getElem?_cons_succ, decide_eq_true_eq, Z52, beq_self_eq_true, beq_true, decide_true, decide_false, Bool.not_true, Bool.not_false, true_and, and_true, or_false, false_or, Bool.and_eq_true, Bool.and_true, Bool.true_and, reduceCtorEq, not_false_eq_true], by simp -implicitDefEqProofs only [Z2i, Z2n, Z2g, Z2h, Z2k, Z2l, Z2m, Z2j, Z2f, Z2d, Z2e, Z3i, Z3h, Z3g, Nat.zero_mul, Nat.reduceMul, Z4k, Z13, Z14, List.length_map, Z35, Z34, Z37, Z33, Z36, Z31, Z38, Z32, Z30, Z2z, Tk.nm.injEq, Tk.cell.injEq, false_and, and_false, Z2o, Z4j, Nat.le_add_right, Z5h, Z5i, Z6z, Nat.le_refl, Z5v, Z5u, Z2s, ↓Zx, ↓Zs, ↓Zt, ↓Zw, ↓Zy, ↓Zu, ↓Zv, ↓Zz, ↓Z10, ↓Zl, ↓Z2, ↓Zo, ↓Z3, ↓Zr, ↓Zg, ↓Zc, ↓Zb, ↓Ze, ↓Zd, ↓Zp, ↓Z9, ↓Za, ↓Zm, ↓Zi, ↓Z5, ↓Z6, ↓Zf, ↓Z1, ↓Z7, ↓Z8, ↓Z0, ↓Z4, ↓Zq, ↓Zh, ↓Zk, ↓Zj, ↓Zn, ↓Z64, ↓Z66, ↓Z63, ↓Z65, ↓Z7f, ↓Z7g, ↓Z7e, ↓Z2x, ↓Z2y, ↓Z2w, ↓Z1e, ↓Z1f, ↓Z1d, Z4c, Z1a, ↓Z8a, ↓Z8b, ↓Z89, ↓Z78, ↓Z79, ↓Z77, ↓Z3e, ↓Z3c, ↓Z3d, Z5c, Z5b, Z5g, Z5e, Z5f, Z5d, ↓Z3y, ↓Z3z, ↓Z3x, Z3u, Z3w, Z3v, ↓Z7b, ↓Z7a, ↓Z7d, ↓Z7c, ↓Z1z, ↓Z1y, ↓Z21, ↓Z20, ↓Z6o, ↓Z6p, ↓Z4s, ↓Z4t, Z2p, ↓Z3o, ↓Z3p, Z3s, Z3n, Z3q, Z3r, Z5p, Z5q, Z5o, Z5n, Z5r, Z1n, Z1m, Z1l, Z1k, Z1j, Z1p, Z1g, Z1t, Z1o, Z1r, Z1s, Z1q, Z1h, Z1i, Z88, Z87, Z4d, Z4e, Z4f, Z5y, Z4b, Z4a, Z49, Z48, Z16, Z17, Z15, Z6a, Z6b, Z69, ↓Z68, ↓Z67, Z2q, Z22, Z23, Z25, Z24, Z60, Z5z, Z55, Z56, ↓Z1b, ↓Z1c, Z81, Z80, Z7x, Z84, Z7y, Z83, Z7z, Z82, Z86, Z85, Z5a, Z59, Z7w, Z7t, Z7v, Z7u, Z4r, Z4q, Z4p, Z62, Z61, Z6v, Z6y, Z6w, Z6x, Z40, Z41, Z74, Z72, Z73, Z6u, Z6t, Z2v, Z2u, Z5x, Z5w, Z2r, Z71, Z70, Z6d, Z6c, Z6k, Z6j, Z6l, Z6m, Z6i, Z6h, Z6g, Z6n, Z6f, Z6e, Z58, Z57, Z7p, Z7o, Z7q, Z7r, Z7n, Z7m, Z7l, Z7s, Z7k, Z7j, Z7h, Z7i, Z54, Z53, Z5m, Z11, Z4y, Z4z, Z4x, Z51, Z4w, Z4v, Z4u, Z50, Z12, Z75, Z76, Z43, Z42, Z4o, Z4n, Z4l, Z4m, Z19, Z18, Z29, Z2b, Z2a, Z28, Z2c, Z27, Z26, Z5t, Z3t, Z6r, ↓Z6s, ↓Z6q, Z2t, Z47, Z44, Z45, Z46, Z3m, Z3k, Z3l, Z3j, Z1v, Z1u, Z1w, Z1x, List.any_cons, List.any_nil, Bool.or_true, Bool.true_or, Bool.or_false, Bool.false_or, Bool.and_false, Bool.false_and, Nat.reduceBEq, Z5k, Z5j, Z5l, Z3f, ↓Z39, ↓Z3b, ↓Z3a, Z4i, Z4h, Z4g, Z5s, Nat.reduceLeDiff, Int.reduceLT, Int.reduceLE, Int.reduceAdd, Int.reduceToNat, Int.reduceNeg, Int.cast_ofNat_Int, Nat.reduceLT, List.drop_succ_cons, List.take_succ_cons, List.singleton_append, Nat.zero_add, List.set_cons_zero, List.set_cons_succ, List.drop_nil, List.take_nil, Option.map_some, Option.map_none, Option.getD_some, Option.getD_none, Option.bind_some, List.cons_append, List.nil_append, List.append_nil, List.map_cons, List.map_nil, List.range_zero, List.take_zero, List.flatten_nil, List.filter_nil, List.length_nil, List.length_cons, List.drop_zero, List.not_mem_nil, List.mem_cons, Bool.true_eq_false, Bool.false_eq_true, ↓reduceIte, Nat.reduceEqDiff, Nat.reduceAdd, List.getElem?_toArray, List.toList_toArray, List.getElem?_cons_zero, List.getElem?_cons_succ, decide_eq_true_eq, Z52, beq_self_eq_true, beq_true, decide_true, decide_false, Bool.not_true, Bool.not_false, true_and, and_true, or_false, false_or, Bool.and_eq_true, Bool.and_true, Bool.true_and, reduceCtorEq, not_false_eq_true], by simp -implicitDefEqProofs only [Z2i, Z2n, Z2g, Z2h, Z2k, Z2l, Z2m, Z2j, Z2f, Z2d, Z2e, Z3i, Z3h, Z3g, Nat.zero_mul, Nat.reduceMul, Z4k, Z13, Z14, List.length_map, Z35, Z34, Z37, Z33, Z36, Z31, Z38, Z32, Z30, Z2z, Tk.nm.injEq, Tk.cell.injEq, false_and, and_false, Z2o, Z4j, Nat.le_add_right, Z5h, Z5i, Z6z, Nat.le_refl, Z5v, Z5u, Z2s, ↓Zx, ↓Zs, ↓Zt, ↓Zw, ↓Zy, ↓Zu, ↓Zv, ↓Zz, ↓Z10, ↓Zl, ↓Z2, ↓Zo, ↓Z3, ↓Zr, ↓Zg, ↓Zc, ↓Zb, ↓Ze, ↓Zd, ↓Zp, ↓Z9, ↓Za, ↓Zm, ↓Zi, ↓Z5, ↓Z6, ↓Zf, ↓Z1, ↓Z7, ↓Z8, ↓Z0, ↓Z4, ↓Zq, ↓Zh, ↓Zk, ↓Zj, ↓Zn, ↓Z64, ↓Z66, ↓Z63, ↓Z65, ↓Z7f, ↓Z7g, ↓Z7e, ↓Z2x, ↓Z2y, ↓Z2w, ↓Z1e, ↓Z1f, ↓Z1d, Z4c, Z1a, ↓Z8a, ↓Z8b, ↓Z89, ↓Z78, ↓Z79, ↓Z77, ↓Z3e, ↓Z3c, ↓Z3d, Z5c, Z5b, Z5g, Z5e, Z5f, Z5d, ↓Z3y, ↓Z3z, ↓Z3x, Z3u, Z3w, Z3v, ↓Z7b, ↓Z7a, ↓Z7d, ↓Z7c, ↓Z1z, ↓Z1y, ↓Z21, ↓Z20, ↓Z6o, ↓Z6p, ↓Z4s, ↓Z4t, Z2p, ↓Z3o, ↓Z3p, Z3s, Z3n, Z3q, Z3r, Z5p, Z5q, Z5o, Z5n, Z5r, Z1n, Z1m, Z1l, Z1k, Z1j, Z1p, Z1g, Z1t, Z1o, Z1r, Z1s, Z1q, Z1h, Z1i, Z88, Z87, Z4d, Z4e, Z4f, Z5y, Z4b, Z4a, Z49, Z48, Z16, Z17, Z15, Z6a, Z6b, Z69, ↓Z68, ↓Z67, Z2q, Z22, Z23, Z25, Z24, Z60, Z5z, Z55, Z56, ↓Z1b, ↓Z1c, Z81, Z80, Z7x, Z84, Z7y, Z83, Z7z, Z82, Z86, Z85, Z5a, Z59, Z7w, Z7t, Z7v, Z7u, Z4r, Z4q, Z4p, Z62, Z61, Z6v, Z6y, Z6w, Z6x, Z40, Z41, Z74, Z72, Z73, Z6u, Z6t, Z2v, Z2u, Z5x, Z5w, Z2r, Z71, Z70, Z6d, Z6c, Z6k, Z6j, Z6l, Z6m, Z6i, Z6h, Z6g, Z6n, Z6f, Z6e, Z58, Z57, Z7p, Z7o, Z7q, Z7r, Z7n, Z7m, Z7l, Z7s, Z7k, Z7j, Z7h, Z7i, Z54, Z53, Z5m, Z11, Z4y, Z4z, Z4x, Z51, Z4w, Z4v, Z4u, Z50, Z12, Z75, Z76, Z43, Z42, Z4o, Z4n, Z4l, Z4m, Z19, Z18, Z29, Z2b, Z2a, Z28, Z2c, Z27, Z26, Z5t, Z3t, Z6r, ↓Z6s, ↓Z6q, Z2t, Z47, Z44, Z45, Z46, Z3m, Z3k, Z3l, Z3j, Z1v, Z1u, Z1w, Z1x, List.any_cons, List.any_nil, Bool.or_true, Bool.true_or, Bool.or_false, Bool.false_or, Bool.and_false, Bool.false_and, Nat.reduceBEq, Z5k, Z5j, Z5l, Z3f, ↓Z39, ↓Z3b, ↓Z3a, Z4i, Z4h, Z4g, Z5s, Nat.reduceLeDiff, Int.reduceLT, Int.reduceLE, Int.reduceAdd, Int.reduceToNat, Int.reduceNeg, Int.cast_ofNat_Int, Nat.reduceLT, List.drop_succ_cons, List.take_succ_cons, List.singleton_append, Nat.zero_add, List.set_cons_zero, List.set_cons_succ, List.drop_nil, List.take_nil, Option.map_some, Option.map_none, Option.getD_some, Option.getD_none, Option.bind_some, List.cons_append, List.nil_append, List.append_nil, List.map_cons, List.map_nil, List.range_zero, List.take_zero, List.flatten_nil, List.filter_nil, List.length_nil, List.length_cons, List.drop_zero, List.not_mem_nil, List.mem_cons, Bool.true_eq_false, Bool.false_eq_true, ↓reduceIte, Nat.reduceEqDiff, Nat.reduceAdd, List.getElem?_toArray, List.toList_toArray, List.getElem?_cons_zero, List.getElem?_cons_succ, decide_eq_true_eq, Z52, beq_self_eq_true, beq_true, decide_true, decide_false, Bool.not_true, Bool.not_false, true_and, and_true, or_false, false_or, Bool.and_eq_true, Bool.and_true, Bool.true_and, reduceCtorEq, not_false_eq_true] <;> rfl, by simp -implicitDefEqProofs only [Z2i, Z2n, Z2g, Z2h, Z2k, Z2l, Z2m, Z2j, Z2f, Z2d, Z2e, Z3i, Z3h, Z3g, Nat.zero_mul, Nat.reduceMul, Z4k, Z13, Z14, List.length_map, Z35, Z34, Z37, Z33, Z36, Z31, Z38, Z32, Z30, Z2z, Tk.nm.injEq, Tk.cell.injEq, false_and, and_false, Z2o, Z4j, Nat.le_add_right, Z5h, Z5i, Z6z, Nat.le_refl, Z5v, Z5u, Z2s, ↓Zx, ↓Zs, ↓Zt, ↓Zw, ↓Zy, ↓Zu, ↓Zv, ↓Zz, ↓Z10, ↓Zl, ↓Z2, ↓Zo, ↓Z3, ↓Zr, ↓Zg, ↓Zc, ↓Zb, ↓Ze, ↓Zd, ↓Zp, ↓Z9, ↓Za, ↓Zm, ↓Zi, ↓Z5, ↓Z6, ↓Zf, ↓Z1, ↓Z7, ↓Z8, ↓Z0, ↓Z4, ↓Zq, ↓Zh, ↓Zk, ↓Zj, ↓Zn, ↓Z64, ↓Z66, ↓Z63, ↓Z65, ↓Z7f, ↓Z7g, ↓Z7e, ↓Z2x, ↓Z2y, ↓Z2w, ↓Z1e, ↓Z1f, ↓Z1d, Z4c, Z1a, ↓Z8a, ↓Z8b, ↓Z89, ↓Z78, ↓Z79, ↓Z77, ↓Z3e, ↓Z3c, ↓Z3d, Z5c, Z5b, Z5g, Z5e, Z5f, Z5d, ↓Z3y, ↓Z3z, ↓Z3x, Z3u, Z3w, Z3v, ↓Z7b, ↓Z7a, ↓Z7d, ↓Z7c, ↓Z1z, ↓Z1y, ↓Z21, ↓Z20, ↓Z6o, ↓Z6p, ↓Z4s, ↓Z4t, Z2p, ↓Z3o, ↓Z3p, Z3s, Z3n, Z3q, Z3r, Z5p, Z5q, Z5o, Z5n, Z5r, Z1n, Z1m, Z1l, Z1k, Z1j, Z1p, Z1g, Z1t, Z1o, Z1r, Z1s, Z1q, Z1h, Z1i, Z88, Z87, Z4d, Z4e, Z4f, Z5y, Z4b, Z4a, Z49, Z48, Z16, Z17, Z15, Z6a, Z6b, Z69, ↓Z68, ↓Z67, Z2q, Z22, Z23, Z25, Z24, Z60, Z5z, Z55, Z56, ↓Z1b, ↓Z1c, Z81, Z80, Z7x, Z84, Z7y, Z83, Z7z, Z82, Z86, Z85, Z5a, Z59, Z7w, Z7t, Z7v, Z7u, Z4r, Z4q, Z4p, Z62, Z61, Z6v, Z6y, Z6w, Z6x, Z40, Z41, Z74, Z72, Z73, Z6u, Z6t, Z2v, Z2u, Z5x, Z5w, Z2r, Z71, Z70, Z6d, Z6c, Z6k, Z6j, Z6l, Z6m, Z6i, Z6h, Z6g, Z6n, Z6f, Z6e, Z58, Z57, Z7p, Z7o, Z7q, Z7r, Z7n, Z7m, Z7l, Z7s, Z7k, Z7j, Z7h, Z7i, Z54, Z53, Z5m, Z11, Z4y, Z4z, Z4x, Z51, Z4w, Z4v, Z4u, Z50, Z12, Z75, Z76, Z43, Z42, Z4o, Z4n, Z4l, Z4m, Z19, Z18, Z29, Z2b, Z2a, Z28, Z2c, Z27, Z26, Z5t, Z3t, Z6r, ↓Z6s, ↓Z6q, Z2t, Z47, Z44, Z45, Z46, Z3m, Z3k, Z3l, Z3j, Z1v, Z1u, Z1w, Z1x, List.any_cons, List.any_nil, Bool.or_true, Bool.true_or, Bool.or_false, Bool.false_or, Bool.and_false, Bool.false_and, Nat.reduceBEq, Z5k, Z5j, Z5l, Z3f, ↓Z39, ↓Z3b, ↓Z3a, Z4i, Z4h, Z4g, Z5s, Nat.reduceLeDiff, Int.reduceLT, Int.reduceLE, Int.reduceAdd, Int.reduceToNat, Int.reduceNeg, Int.cast_ofNat_Int, Nat.reduceLT, List.drop_succ_cons, List.take_succ_cons, List.singleton_append, Nat.zero_add, List.set_cons_zero, List.set_cons_succ, List.drop_nil, List.take_nil, Option.map_some, Option.map_none, Option.getD_some, Option.getD_none, Option.bind_some, List.cons_append, List.nil_append, List.append_nil, List.map_cons, List.map_nil, List.range_zero, List.take_zero, List.flatten_nil, List.filter_nil, List.length_nil, List.length_cons, List.drop_zero, List.not_mem_nil, List.mem_cons, Bool.true_eq_false, Bool.false_eq_true, ↓reduceIte, Nat.reduceEqDiff, Nat.reduceAdd, List.getElem?_toArray, List.toList_toArray, List.getElem?_cons_zero, List.getElem?_cons_succ, decide_eq_true_eq, Z52, beq_self_eq_true, beq_true, decide_true, decide_false, Bool.not_true, Bool.not_false, true_and, and_true, or_false, false_or, Bool.and_eq_true, Bool.and_true, Bool.true_and, reduceCtorEq, not_false_eq_true], by simp -implicitDefEqProofs only [Z2i, Z2n, Z2g, Z2h, Z2k, Z2l, Z2m, Z2j, Z2f, Z2d, Z2e, Z3i, Z3h, Z3g, Nat.zero_mul, Nat.reduceMul, Z4k, Z13, Z14, List.length_map, Z35, Z34, Z37, Z33, Z36, Z31, Z38, Z32, Z30, Z2z, Tk.nm.injEq, Tk.cell.injEq, false_and, and_false, Z2o, Z4j, Nat.le_add_right, Z5h, Z5i, Z6z, Nat.le_refl, Z5v, Z5u, Z2s, ↓Zx, ↓Zs, ↓Zt, ↓Zw, ↓Zy, ↓Zu, ↓Zv, ↓Zz, ↓Z10, ↓Zl, ↓Z2, ↓Zo, ↓Z3, ↓Zr, ↓Zg, ↓Zc, ↓Zb, ↓Ze, ↓Zd, ↓Zp, ↓Z9, ↓Za, ↓Zm, ↓Zi, ↓Z5, ↓Z6, ↓Zf, ↓Z1, ↓Z7, ↓Z8, ↓Z0, ↓Z4, ↓Zq, ↓Zh, ↓Zk, ↓Zj, ↓Zn, ↓Z64, ↓Z66, ↓Z63, ↓Z65, ↓Z7f, ↓Z7g, ↓Z7e, ↓Z2x, ↓Z2y, ↓Z2w, ↓Z1e, ↓Z1f, ↓Z1d, Z4c, Z1a, ↓Z8a, ↓Z8b, ↓Z89, ↓Z78, ↓Z79, ↓Z77, ↓Z3e, ↓Z3c, ↓Z3d, Z5c, Z5b, Z5g, Z5e, Z5f, Z5d, ↓Z3y, ↓Z3z, ↓Z3x, Z3u, Z3w, Z3v, ↓Z7b, ↓Z7a, ↓Z7d, ↓Z7c, ↓Z1z, ↓Z1y, ↓Z21, ↓Z20, ↓Z6o, ↓Z6p, ↓Z4s, ↓Z4t, Z2p, ↓Z3o, ↓Z3p, Z3s, Z3n, Z3q, Z3r, Z5p, Z5q, Z5o, Z5n, Z5r, Z1n, Z1m, Z1l, Z1k, Z1j, Z1p, Z1g, Z1t, Z1o, Z1r, Z1s, Z1q, Z1h, Z1i, Z88, Z87, Z4d, Z4e, Z4f, Z5y, Z4b, Z4a, Z49, Z48, Z16, Z17, Z15, Z6a, Z6b, Z69, ↓Z68, ↓Z67, Z2q, Z22, Z23, Z25, Z24, Z60, Z5z, Z55, Z56, ↓Z1b, ↓Z1c, Z81, Z80, Z7x, Z84, Z7y, Z83, Z7z, Z82, Z86, Z85, Z5a, Z59, Z7w, Z7t, Z7v, Z7u, Z4r, Z4q, Z4p, Z62, Z61, Z6v, Z6y, Z6w, Z6x, Z40, Z41, Z74, Z72, Z73, Z6u, Z6t, Z2v, Z2u, Z5x, Z5w, Z2r, Z71, Z70, Z6d, Z6c, Z6k, Z6j, Z6l, Z6m, Z6i, Z6h, Z6g, Z6n, Z6f, Z6e, Z58, Z57, Z7p, Z7o, Z7q, Z7r, Z7n, Z7m, Z7l, Z7s, Z7k, Z7j, Z7h, Z7i, Z54, Z53, Z5m, Z11, Z4y, Z4z, Z4x, Z51, Z4w, Z4v, Z4u, Z50, Z12, Z75, Z76, Z43, Z42, Z4o, Z4n, Z4l, Z4m, Z19, Z18, Z29, Z2b, Z2a, Z28, Z2c, Z27, Z26, Z5t, Z3t, Z6r, ↓Z6s, ↓Z6q, Z2t, Z47, Z44, Z45, Z46, Z3m, Z3k, Z3l, Z3j, Z1v, Z1u, Z1w, Z1x, List.any_cons, List.any_nil, Bool.or_true, Bool.true_or, Bool.or_false, Bool.false_or, Bool.and_false, Bool.false_and, Nat.reduceBEq, Z5k, Z5j, Z5l, Z3f, ↓Z39, ↓Z3b, ↓Z3a, Z4i, Z4h, Z4g, Z5s, Nat.reduceLeDiff, Int.reduceLT, Int.reduceLE, Int.reduceAdd, Int.reduceToNat, Int.reduceNeg, Int.cast_ofNat_Int, Nat.reduceLT, List.drop_succ_cons, List.take_succ_cons, List.singleton_append, Nat.zero_add, List.set_cons_zero, List.set_cons_succ, List.drop_nil, List.take_nil, Option.map_some, Option.map_none, Option.getD_some, Option.getD_none, Option.bind_some, List.cons_append, List.nil_append, List.append_nil, List.map_cons, List.map_nil, List.range_zero, List.take_zero, List.flatten_nil, List.filter_nil, List.length_nil, List.length_cons, List.drop_zero, List.not_mem_nil, List.mem_cons, Bool.true_eq_false, Bool.false_eq_true, ↓reduceIte, Nat.reduceEqDiff, Nat.reduceAdd, List.getElem?_toArray, List.toList_toArray, List.getElem?_cons_zero, List.getElem?_cons_succ, decide_eq_true_eq, Z52, beq_self_eq_true, beq_true, decide_true, decide_false, Bool.not_true, Bool.not_false, true_and, and_true, or_false, false_or, Bool.and_eq_true, Bool.and_true, Bool.true_and, reduceCtorEq, not_false_eq_true], rfl⟩
end Go.Proofs.YtiepbejeiijpmaaDoor

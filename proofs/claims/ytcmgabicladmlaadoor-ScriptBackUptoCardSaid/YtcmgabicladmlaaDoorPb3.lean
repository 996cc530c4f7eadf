/-
  An abstract machine for Go code over plain data: objects of the call's own; the operations of a region, in the order of the text. Conditions: none.
-/
import Derived.Test.YtcmgabicladmlaaDoorPb2
namespace Go.Pe
open Go.RowKit

theorem pos_of {α : Type} [DecidableEq α] : ∀ {l : List α} {a : α} {i : Nat}, l.Nodup → l[i]? = some a → pos l a = some i
  | [], a, i, _, h => by simp at h
  | b :: l, a, 0, _, h => by
    simp only [List.getElem?_cons_zero, Option.some.injEq] at h
    subst h
    simp [pos]
  | b :: l, a, i + 1, hn, h => by
    simp only [List.getElem?_cons_succ] at h
    rw [List.nodup_cons] at hn
    have hne : b ≠ a := by rintro rfl; exact hn.1 (List.mem_of_getElem? h)
    simp [pos, hne, pos_of hn.2 h]

/-- What is known, of objects by their places in a list. -/
def reK (refs : List Nat) (k : Know) : Know := { m := k.m, μ := fun i => (refs[i]?).bind k.μ }
def reO (refs : List Nat) (ts : List Tk) (ow : Own) : Own
  | .nm 0 0 i => (ts[i]?).bind ow
  | .nm .. => none
  | .cell i off => (refs[i]?).bind fun r => if Tk.cell r off ∈ ts then none else ow (.cell r off)

section
variable {P : Program} {M0 : Base} {k : Know} {ow : Own} {done : Nat → Prop} {w0 w : World} {N : Nat} {s : S} {tmps : Array Value} {refs : List Nat} {ts : List Tk} {objs obs : List Ob}

theorem ren_in : Ren (pos refs) (rhoIn refs ts) k (reK refs k) ow (reO refs ts ow) where
  m := fun _ _ _ h => h
  μ := fun r b r' hr hs => by simp only [reK, pos_spec hs, Option.bind_some, hr]
  ow := fun t p t' ht hr => by
    unfold rhoIn at hr
    split at hr
    · rename_i i hi
      simp only [Option.some.injEq] at hr
      subst hr
      simp only [reO, pos_spec hi, Option.bind_some, ht]
    · rename_i hno
      split at hr
      · rename_i r off
        simp only [Option.map_eq_some_iff] at hr
        obtain ⟨r', hr', rfl⟩ := hr
        simp only [reO, pos_spec hr', Option.bind_some, if_neg (pos_none hno), ht]
      · cases hr

theorem reO_src (hr : refs.Nodup) (hts : ts.Nodup) {t' : Tk} {p : Value × Nat × Nat × Nat} (h : reO refs ts ow t' = some p) : ∃ t, ow t = some p ∧ rhoIn refs ts t = some t' := by
  unfold reO at h
  split at h
  · rename_i i
    simp only [Option.bind_eq_some_iff] at h
    obtain ⟨t, ht, hp⟩ := h
    exact ⟨t, hp, by simp only [rhoIn, pos_of hts ht]⟩
  · cases h
  · rename_i i off
    simp only [Option.bind_eq_some_iff] at h
    obtain ⟨r, hr', hp⟩ := h
    split at hp
    · cases hp
    · rename_i hno
      refine ⟨.cell r off, hp, ?_⟩
      have : pos ts (Tk.cell r off) = none := by
        cases hps : pos ts (Tk.cell r off) with
        | none => rfl
        | some i => exact (hno (List.mem_of_getElem? (pos_spec hps))).elim
      simp only [rhoIn, this, pos_of hr hr', Option.map_some]

theorem pickObs_len {σ : Nat → Option Nat} {ρ : Tk → Option Tk} {objs : List Ob} : ∀ {l : List Nat} {obs : List Ob}, pickObs σ ρ objs l = some obs → obs.length = l.length
  | [], obs, h => by simp only [pickObs, Option.some.injEq] at h; subst h; rfl
  | r :: l, obs, h => by
    simp only [pickObs] at h
    split at h
    · rename_i ob q h1 h2
      simp only [Option.some.injEq] at h
      subst h
      simp [pickObs_len h2]
    · cases h
theorem pickObs_at {σ : Nat → Option Nat} {ρ : Tk → Option Tk} {objs : List Ob} : ∀ {l : List Nat} {obs : List Ob}, pickObs σ ρ objs l = some obs → ∀ (i r : Nat), l[i]? = some r → ∃ ob : Ob, objs[r]? = some ob ∧ obs[i]? = some (ob.tr σ ρ)
  | [], obs, h, i, r, hi => by simp at hi
  | r0 :: l, obs, h, i, r, hi => by
    simp only [pickObs] at h
    split at h
    · rename_i ob q h1 h2
      simp only [Option.some.injEq] at h
      subst h
      cases i with
      | zero => simp only [List.getElem?_cons_zero, Option.some.injEq] at hi; subst hi; exact ⟨ob, h1, rfl⟩
      | succ i => simpa using pickObs_at h2 i r (by simpa using hi)
    · cases h

theorem Hp.drops (h : Hp M0 k ow w0 w objs) (ts : List Tk) : Hp M0 k ow w0 w (dropTs ts objs) := by
  unfold dropTs
  split
  · exact h
  · exact { h with
      obj := fun r ob hr => by
        simp only [List.getElem?_map, Option.map_eq_some_iff] at hr
        obtain ⟨ob', h1, rfl⟩ := hr
        obtain ⟨b, h2, h3, h4, h5, h6⟩ := h.obj r ob' h1
        exact ⟨b, h2, h3, h4, h5, h6.tr ⟨fun _ _ _ h => h, fun r b r' hr he => by cases he; exact hr, fun t p t' ht he => by
          split at he
          · cases he
          · cases he; exact ht⟩⟩
      dom := fun r b hr => by simpa using h.dom r b hr }
theorem dropTs_len (ts : List Tk) (objs : List Ob) : (dropTs ts objs).length = objs.length := by
  unfold dropTs
  split <;> simp

/-- Objects and rights, by their places in lists. -/
theorem Hp.re (h : Hp M0 k ow w0 w objs) (hr : refs.Nodup) (hts : ts.Nodup) (hp : pickObs (pos refs) (rhoIn refs ts) objs refs = some obs) {M1 : Base} {w1 : World}
    (hgood : M1.G.holds w1 ∧ ∀ b, M1.G.blk b → b < w1.heap.size ∧ ¬ M1.mod b) (hbelow : Keeps M1.mod w1 w) (hmine : ∀ b, Given (reK refs k) (reO refs ts ow) b → Mine M0.mod w0 b → Mine M1.mod w1 b)
    (hm0 : ∀ b o v, k.m b o = some v → b < w1.heap.size → ¬ M1.mod b → M1.m b o = some v) : Hp M1 (reK refs k) (reO refs ts ow) w1 w obs where
  good := hgood
  below := hbelow
  mem := h.mem
  obj := fun i ob hi => by
    have hlt : i < refs.length := by
      rw [← pickObs_len hp]
      exact (List.getElem?_eq_some_iff.1 hi).1
    obtain ⟨ob0, h1, h2⟩ := pickObs_at hp i _ (List.getElem?_eq_getElem hlt)
    obtain rfl : ob = ob0.tr (pos refs) (rhoIn refs ts) := Option.some.inj (hi.symm.trans h2)
    obtain ⟨b, h3, h4, h5, h6, h7⟩ := h.obj _ _ h1
    have hμ : (reK refs k).μ i = some b := by simp only [reK, List.getElem?_eq_getElem hlt, Option.bind_some, h3]
    exact ⟨b, hμ, hmine b (.inl ⟨i, hμ⟩) h4, h5, h6, h7.tr ren_in⟩
  dom := fun i b hi => by
    simp only [reK, Option.bind_eq_some_iff] at hi
    obtain ⟨r, hr', _⟩ := hi
    rw [pickObs_len hp]
    exact (List.getElem?_eq_some_iff.1 hr').1
  inj := fun i j b hi hj => by
    simp only [reK, Option.bind_eq_some_iff] at hi hj
    obtain ⟨r, h1, h2⟩ := hi
    obtain ⟨r', h3, h4⟩ := hj
    obtain rfl := h.inj r r' b h2 h4
    have := (pos_of hr h1).symm.trans (pos_of hr h3)
    exact Option.some.inj this
  tok := fun t v e z n ht => by
    obtain ⟨t0, h1, _⟩ := reO_src hr hts ht
    obtain ⟨g1, g2⟩ := h.tok t0 v e z n h1
    refine ⟨g1, fun g hg => ⟨hmine g (.inr ⟨t, v, e, z, n, ht, hg⟩) (g2 g hg).1, (g2 g hg).2.1, fun i hi => ?_⟩⟩
    simp only [reK, Option.bind_eq_some_iff] at hi
    obtain ⟨r, _, h4⟩ := hi
    exact (g2 g hg).2.2 r h4
  tokne := fun t t' v e z n v' e' z' n' ht ht' hne => by
    obtain ⟨a, h1, h2⟩ := reO_src hr hts ht
    obtain ⟨b, h3, h4⟩ := reO_src hr hts ht'
    exact h.tokne a b v e z n v' e' z' n' h1 h3 (fun e => hne (by subst e; rw [h2] at h4; exact Option.some.inj h4))
  m0 := hm0

theorem reO_older {t : Tk} {p : Value × Nat × Nat × Nat} (h : reO refs ts ow t = some p) : t.older 1 fun _ => False := by
  unfold reO at h
  split at h
  · exact .inl Nat.zero_lt_one
  · cases h
  · trivial
theorem reO_cells {i off : Nat} {p : Value × Nat × Nat × Nat} (h : reO refs ts ow (.cell i off) = some p) : i < refs.length := by
  simp only [reO, Option.bind_eq_some_iff] at h
  obtain ⟨r, hr, _⟩ := h
  exact (List.getElem?_eq_some_iff.1 hr).1

theorem setObs_len (σ : Nat → Option Nat) (ρ : Tk → Option Tk) : ∀ (l : List Nat) (objs : List Ob) (q : List Ob), (setObs σ ρ objs l q).length = objs.length
  | [], objs, q => by simp [setObs]
  | r :: l, objs, [] => by simp [setObs]
  | r :: l, objs, ob :: q => by simp [setObs, setObs_len σ ρ l]
theorem setObs_out (σ : Nat → Option Nat) (ρ : Tk → Option Tk) : ∀ (l : List Nat) (objs : List Ob) (q : List Ob) (r : Nat), r ∉ l → (setObs σ ρ objs l q)[r]? = objs[r]?
  | [], objs, q, r, _ => by simp [setObs]
  | r0 :: l, objs, [], r, _ => by simp [setObs]
  | r0 :: l, objs, ob :: q, r, h => by
    simp only [List.mem_cons, not_or] at h
    simp only [setObs]
    rw [setObs_out σ ρ l _ q r h.2, List.getElem?_set_ne (Ne.symm h.1)]
theorem setObs_in (σ : Nat → Option Nat) (ρ : Tk → Option Tk) : ∀ (l : List Nat) (objs : List Ob) (q : List Ob) (i r : Nat) (ob : Ob), l.Nodup → l[i]? = some r → q[i]? = some ob → r < objs.length → (setObs σ ρ objs l q)[r]? = some (ob.tr σ ρ)
  | [], objs, q, i, r, ob, _, hl, _, _ => by simp at hl
  | r0 :: l, objs, [], i, r, ob, _, _, hq, _ => by simp at hq
  | r0 :: l, objs, ob0 :: q, 0, r, ob, hn, hl, hq, hr => by
    simp only [List.getElem?_cons_zero, Option.some.injEq] at hl hq
    subst hl; subst hq
    rw [List.nodup_cons] at hn
    simp only [setObs]
    rw [setObs_out σ ρ l _ q r0 hn.1, List.getElem?_set_self hr]
  | r0 :: l, objs, ob0 :: q, i + 1, r, ob, hn, hl, hq, hr => by
    rw [List.nodup_cons] at hn
    simp only [setObs]
    exact setObs_in σ ρ l _ q i r ob hn.2 (by simpa using hl) (by simpa using hq) (by simpa using hr)

theorem Sim.new (h : Sim M0 k ow done w0 w N s tmps) {ix i : Nat} (hd : ¬ done ix) : ow (.nm s.clk ix i) = none := by
  cases ho : ow (.nm s.clk ix i) with
  | none => rfl
  | some p =>
    rcases h.fresh _ _ ho with h1 | ⟨_, h1⟩
    · omega
    · exact (hd h1).elim

theorem rdAll_rep (h : Sim M0 k ow done w0 w N s tmps) : ∀ (l : List Operand) (cs : List C), rdAll s.ev l = some cs → RepL k.m cs (l.map fun x => (⟨tmps, []⟩ : Act).eval x)
  | [], cs, hr => by simp only [rdAll, Option.some.injEq] at hr; subst hr; simp [RepL]
  | x :: l, cs, hr => by
    simp only [rdAll] at hr
    split at hr
    · rename_i c cs' h1 h2
      simp only [Option.some.injEq] at hr
      subst hr
      simp only [List.map_cons, RepL]
      exact ⟨_, _, rfl, repX_rd _ _ _ h1 (h.ev x), rdAll_rep h l cs' h2⟩
    · cases hr

theorem oneX_rep {xs : List X} {us : List Value} (h : RepXs k ow xs us) : RepX k ow (oneX xs) (retOf us) := by
  unfold oneX
  split
  · simp only [RepXs] at h
    obtain ⟨v, r, rfl, hx, rfl⟩ := h
    exact hx
  · rename_i xs' hne
    have : retOf us = .tuple us.toArray := by
      unfold retOf
      split
      · rename_i u
        have hl := h.length
        match xs, hl, hne with
        | [x], _, hne => exact (hne x rfl).elim
      · rfl
    rw [this]
    simp only [RepX]
    exact ⟨us, rfl, h⟩

/-- A call, from where it is made: what is given are these objects and these rights. -/
theorem call_core (hs : Sim M0 k ow done w0 w N s tmps) (hr : refs.Nodup) (hts : ts.Nodup) (hp : pickObs (pos refs) (rhoIn refs ts) (dropTs ts s.objs) refs = some obs)
    {f : Nat} {xs : List X} {an : An} {vs : List Value} {ix : Nat} (hsound : Sound P M0.G f xs obs an) (hc : callable P f = true) (hvs : RepXs (reK refs k) (reO refs ts ow) xs vs) (hd : ¬ done ix) :
    Calls P f vs.toArray w fun e w' => ∃ us kn own, EndsAs an.pan us e ∧ k.le kn ∧ refs.length ≤ an.obs.length ∧
      Sim M0 kn own (fun j => done j ∨ j = ix) w0 w' N { s with fr := fun j => (s.fr j).tr some (keepTk refs ts), objs := setObs (fun i => some (sigBack refs s.objs.length i)) (rhoBack refs s.objs.length s.clk ix) (s.objs.map (Ob.tr some (keepTk refs ts))) refs an.obs ++ (an.obs.drop refs.length).map (Ob.tr (fun i => some (sigBack refs s.objs.length i)) (rhoBack refs s.objs.length s.clk ix)) } tmps ∧
      RepXs kn own (X.trs (fun i => some (sigBack refs s.objs.length i)) (rhoBack refs s.objs.length s.clk ix) an.rs) us := by
  unfold callable at hc
  split at hc
  rotate_left
  · cases hc
  rename_i fn hf
  have hd1 := hs.toHp.drops ts
  have hgm : ∀ b, Given (reK refs k) (reO refs ts ow) b → Mine M0.mod w0 b ∧ b < w.heap.size := by
    rintro b (⟨i, hi⟩ | ⟨t, v, e, z, n, ht, hv⟩)
    · simp only [reK, Option.bind_eq_some_iff] at hi
      obtain ⟨r, _, h2⟩ := hi
      exact ⟨(hs.lt h2).1, (hs.lt h2).2.1⟩
    · obtain ⟨t0, h1, _⟩ := reO_src hr hts ht
      exact hs.tlt h1 hv
  have hpre : Hp ⟨M0.G, k.m, Given (reK refs k) (reO refs ts ow)⟩ (reK refs k) (reO refs ts ow) w w obs :=
    hd1.re hr hts hp ⟨hs.table, fun b hb => ⟨Nat.lt_of_lt_of_le (hs.good.2 b hb).1 hs.below.size, fun hg => by
      rcases (hgm b hg).1 with h1 | h1
      · have := (hs.good.2 b hb).1; omega
      · exact (hs.good.2 b hb).2 h1⟩⟩ (Keeps.refl _ _) (fun b hb _ => .inr hb) (fun b o v hm _ _ => hm)
  have hol : obs.length = refs.length := pickObs_len hp
  have hrl : ∀ i r, refs[i]? = some r → r < s.objs.length := fun i r hi => by
    obtain ⟨ob, h1, _⟩ := pickObs_at hp i r hi
    rw [← dropTs_len ts s.objs]
    exact (List.getElem?_eq_some_iff.1 h1).1
  refine (hsound fn hf _ _ w vs hpre (fun t p ht => reO_older ht) (fun i off p ht => by rw [hol]; exact reO_cells ht) hvs).mono fun e w' ⟨k', ow', us, hend, hp', hle, hlen, hμ, hold, hcl, hrs⟩ => ?_
  rw [hol] at hlen hμ
  simp only [reK] at hle hμ
  -- what is known behind the call
  let L := s.objs.length
  let m := refs.length
  let kn : Know := { m := k'.m, μ := fun r => if r < L then k.μ r else k'.μ (m + (r - L)) }
  let own : Own := fun t => match t with
    | .nm c ix' i => if c = s.clk ∧ ix' = ix then ow' (.nm 0 0 i) else if t ∈ ts then none else ow t
    | .cell r off => if r < L then (match pos refs r with
        | some i => ow' (.cell i off)
        | none => if t ∈ ts then none else ow t) else ow' (.cell (m + (r - L)) off)
  have hknl : ∀ r, r < L → kn.μ r = k.μ r := fun r h => by show (if r < L then _ else _) = _; rw [if_pos h]
  have hkng : ∀ r, ¬ r < L → kn.μ r = k'.μ (m + (r - L)) := fun r h => by show (if r < L then _ else _) = _; rw [if_neg h]
  have hkle : k.le kn := ⟨hle, fun r b hb => by rw [hknl r (hs.dom r b hb)]; exact hb⟩
  have hposnone : ∀ r, r ∉ refs → pos refs r = none := fun r hno => by
    cases hps : pos refs r with
    | none => rfl
    | some i => exact (hno (List.mem_of_getElem? (pos_spec hps))).elim
  have hkeep : ∀ t t', keepTk refs ts t = some t' → t' = t ∧ t ∉ ts ∧ ∀ r off, t = .cell r off → r ∉ refs := by
    intro t t' h
    unfold keepTk at h
    split at h
    · cases h
    · rename_i hno
      split at h
      · rename_i r off
        split at h
        · cases h
        · rename_i hnr
          simp only [Option.some.injEq] at h
          refine ⟨h.symm, hno, fun r' off' e => ?_⟩
          cases e
          exact hnr
      · simp only [Option.some.injEq] at h
        exact ⟨h.symm, hno, fun r' off' e => by cases e⟩
  have hownk : ∀ t p, ow t = some p → t ∉ ts → (∀ r off, t = .cell r off → r ∉ refs) → own t = some p := by
    intro t p ht hno hnr
    cases t with
    | nm c ix' i =>
      show (if c = s.clk ∧ ix' = ix then _ else _) = _
      rw [if_neg, if_neg hno, ht]
      rintro ⟨rfl, rfl⟩
      rw [hs.new hd] at ht
      cases ht
    | cell r off =>
      show (if r < L then _ else _) = _
      rw [if_pos (hs.cells r off p ht), hposnone r (hnr r off rfl)]
      simp only [if_neg hno, ht]
  have renA : Ren some (keepTk refs ts) k kn ow own := ⟨hle, fun r b r' hrb he => by cases he; exact hkle.2 _ _ hrb, fun t p t' ht hk => by
    obtain ⟨rfl, h1, h2⟩ := hkeep t t' hk
    exact hownk t' p ht h1 h2⟩
  have hsig1 : ∀ i r, refs[i]? = some r → sigBack refs L i = r := fun i r h => by simp [sigBack, h]
  have hsig2 : ∀ i, m ≤ i → sigBack refs L i = L + (i - m) := fun i h => by
    have : refs[i]? = none := List.getElem?_eq_none h
    simp [sigBack, this, m]
  have hμi : ∀ i r, refs[i]? = some r → k'.μ i = k.μ r := fun i r h => by
    rw [hμ i (List.getElem?_eq_some_iff.1 h).1, h]; rfl
  have renB : Ren (fun i => some (sigBack refs L i)) (rhoBack refs L s.clk ix) k' kn ow' own := by
    refine ⟨fun _ _ _ h => h, fun i b r' hb he => ?_, fun t p t' ht he => ?_⟩
    · simp only [Option.some.injEq] at he
      subst he
      rcases Nat.lt_or_ge i m with g | g
      · have h1 : refs[i]? = some refs[i] := List.getElem?_eq_getElem g
        rw [hsig1 i _ h1, hknl _ (hrl i _ h1), ← hμi i _ h1]
        exact hb
      · rw [hsig2 i g, hkng _ (by omega)]
        have : m + (L + (i - m) - L) = i := by omega
        rw [this]
        exact hb
    · unfold rhoBack at he
      split at he
      · rename_i i
        simp only [Option.some.injEq] at he
        subst he
        show (if s.clk = s.clk ∧ ix = ix then _ else _) = _
        rw [if_pos ⟨rfl, rfl⟩]
        exact ht
      · cases he
      · rename_i i off
        simp only [Option.some.injEq] at he
        subst he
        show (if sigBack refs L i < L then _ else _) = _
        rcases Nat.lt_or_ge i m with g | g
        · have h1 : refs[i]? = some refs[i] := List.getElem?_eq_getElem g
          rw [hsig1 i _ h1, if_pos (hrl i _ h1), pos_of hr h1]
          exact ht
        · rw [hsig2 i g, if_neg (by omega)]
          have : m + (L + (i - m) - L) = i := by omega
          rw [this]
          exact ht
  -- where a right comes from
  have hsrc : ∀ t p, own t = some p → (ow t = some p ∧ t ∉ ts ∧ ∀ r off, t = .cell r off → r ∉ refs) ∨ ∃ t0, ow' t0 = some p ∧ rhoBack refs L s.clk ix t0 = some t := by
    intro t p ht
    cases t with
    | nm c ix' i =>
      have ht' : (if c = s.clk ∧ ix' = ix then ow' (.nm 0 0 i) else if Tk.nm c ix' i ∈ ts then none else ow (.nm c ix' i)) = some p := ht
      split at ht'
      · rename_i h1
        obtain ⟨rfl, rfl⟩ := h1
        exact .inr ⟨_, ht', rfl⟩
      · split at ht'
        · cases ht'
        · rename_i hno
          exact .inl ⟨ht', hno, fun r off e => by cases e⟩
    | cell r off =>
      have ht' : (if r < L then (match pos refs r with
        | some i => ow' (.cell i off)
        | none => if Tk.cell r off ∈ ts then none else ow (.cell r off)) else ow' (.cell (m + (r - L)) off)) = some p := ht
      split at ht'
      · split at ht'
        · rename_i i hi
          refine .inr ⟨_, ht', ?_⟩
          simp only [rhoBack, hsig1 i r (pos_spec hi)]
        · rename_i hpn
          split at ht'
          · cases ht'
          · rename_i hno
            exact .inl ⟨ht', hno, fun r' off' e => by cases e; exact pos_none hpn⟩
      · rename_i hge
        refine .inr ⟨_, ht', ?_⟩
        simp only [rhoBack]
        rw [hsig2 _ (by omega)]
        have : L + (m + (r - L) - m) = r := by omega
        rw [this]
  have hngiven : ∀ t v e z n, ow t = some (v, e, z, n) → t ∉ ts → (∀ r off, t = .cell r off → r ∉ refs) → ∀ g, v.ownBlock = some g → ¬ Given (reK refs k) (reO refs ts ow) g := by
    rintro t v e z n ht hno hnr g hg (⟨i, hi⟩ | ⟨t', v', e', z', n', ht', hg'⟩)
    · simp only [reK, Option.bind_eq_some_iff] at hi
      obtain ⟨r, _, h2⟩ := hi
      exact ((hs.tok t v e z n ht).2 g hg).2.2 r h2
    · obtain ⟨t0, h1, h2⟩ := reO_src hr hts ht'
      refine hs.tokne t t0 v e z n v' e' z' n' ht h1 ?_ g hg hg'
      rintro rfl
      unfold rhoIn at h2
      split at h2
      · rename_i i hi; exact hno (List.mem_of_getElem? (pos_spec hi))
      · split at h2
        · rename_i r off _
          simp only [Option.map_eq_some_iff] at h2
          obtain ⟨i, hi, _⟩ := h2
          exact hnr r off rfl (List.mem_of_getElem? (pos_spec hi))
        · cases h2
  have hngivo : ∀ r b, k.μ r = some b → r ∉ refs → ¬ Given (reK refs k) (reO refs ts ow) b := by
    rintro r b hb hno (⟨i, hi⟩ | ⟨t', v', e', z', n', ht', hg'⟩)
    · simp only [reK, Option.bind_eq_some_iff] at hi
      obtain ⟨r', h1, h2⟩ := hi
      obtain rfl := hs.inj r r' b hb h2
      exact hno (List.mem_of_getElem? h1)
    · obtain ⟨t0, h1, _⟩ := reO_src hr hts ht'
      exact ((hs.tok t0 _ _ _ _ h1).2 b hg').2.2 r hb
  have hmine : ∀ b, Mine (Given (reK refs k) (reO refs ts ow)) w b → Mine M0.mod w0 b := by
    rintro b (h1 | h1)
    · exact .inl (Nat.le_trans hs.below.size h1)
    · exact (hgm b h1).1
  have hapart : ∀ b, b < w.heap.size → ¬ Given (reK refs k) (reO refs ts ow) b → ¬ Mine (Given (reK refs k) (reO refs ts ow)) w b := by
    rintro b h1 h2 (h3 | h3)
    · omega
    · exact h2 h3
  have hmnone : ∀ b, b < w.heap.size → ¬ Given (reK refs k) (reO refs ts ow) b → ∀ o u, k'.m b o = some u → k.m b o = some u := fun b h1 h2 o u hm => hp'.m0 b o u hm h1 h2
  have hlen2 : (setObs (fun i => some (sigBack refs L i)) (rhoBack refs L s.clk ix) (s.objs.map (Ob.tr some (keepTk refs ts))) refs an.obs).length = L := by rw [setObs_len]; simp [L]
  -- an object behind the call
  have hobjs : ∀ r ob, (setObs (fun i => some (sigBack refs L i)) (rhoBack refs L s.clk ix) (s.objs.map (Ob.tr some (keepTk refs ts))) refs an.obs ++ (an.obs.drop m).map (Ob.tr (fun i => some (sigBack refs L i)) (rhoBack refs L s.clk ix)))[r]? = some ob →
      (∃ i ob', an.obs[i]? = some ob' ∧ sigBack refs L i = r ∧ ob = ob'.tr (fun i => some (sigBack refs L i)) (rhoBack refs L s.clk ix)) ∨ (r < L ∧ r ∉ refs ∧ ∃ ob', s.objs[r]? = some ob' ∧ ob = ob'.tr some (keepTk refs ts)) := by
    intro r ob hob
    rcases Nat.lt_or_ge r L with g | g
    · rw [List.getElem?_append_left (by rw [hlen2]; exact g)] at hob
      by_cases hmem : r ∈ refs
      · obtain ⟨i, hi⟩ := List.mem_iff_getElem?.1 hmem
        have hil : i < an.obs.length := Nat.lt_of_lt_of_le (List.getElem?_eq_some_iff.1 hi).1 hlen
        have h1 : an.obs[i]? = some an.obs[i] := List.getElem?_eq_getElem hil
        rw [setObs_in _ _ refs _ _ i r _ hr hi h1 (by simpa [L] using g)] at hob
        exact .inl ⟨i, _, h1, hsig1 i r hi, (Option.some.inj hob).symm⟩
      · rw [setObs_out _ _ refs _ _ r hmem, List.getElem?_map, Option.map_eq_some_iff] at hob
        obtain ⟨ob', h1, h2⟩ := hob
        exact .inr ⟨g, hmem, ob', h1, h2.symm⟩
    · rw [List.getElem?_append_right (by rw [hlen2]; exact g), hlen2, List.getElem?_map, Option.map_eq_some_iff, ] at hob
      obtain ⟨ob', h1, h2⟩ := hob
      rw [List.getElem?_drop] at h1
      refine .inl ⟨m + (r - L), ob', h1, ?_, h2.symm⟩
      rw [hsig2 _ (by omega)]
      omega
  refine ⟨us, kn, own, hend, hkle, hlen, ?_, RepXs.tr renB _ _ hrs⟩
  exact {
    good := hs.good
    below := ⟨hp'.below.os.trans hs.below.os, hp'.below.tape.trans hs.below.tape, hp'.below.output.trans hs.below.output, Nat.le_trans hs.below.size hp'.below.size, fun b hb hm => by
      have hb' : b < w.heap.size := Nat.lt_of_lt_of_le hb hs.below.size
      refine (hp'.below.block b hb' fun hg => ?_).trans (hs.below.block b hb hm)
      rcases (hgm b hg).1 with h1 | h1
      · omega
      · exact hm h1⟩
    mem := hp'.mem
    obj := fun r ob hob => by
      rcases hobjs r ob hob with ⟨i, ob', h1, h2, rfl⟩ | ⟨h1, h2, ob', h3, rfl⟩
      · obtain ⟨b, g1, g2, g3, g4, g5⟩ := hp'.obj i ob' h1
        exact ⟨b, renB.μ i b r g1 (by rw [h2]), hmine b g2, g3, g4, g5.tr renB⟩
      · obtain ⟨b, g1, g2, g3, g4, g5⟩ := hs.obj r ob' h3
        have hng := hngivo r b g1 h2
        refine ⟨b, by rw [hknl r h1]; exact g1, g2, Nat.lt_of_lt_of_le g3 hp'.below.size, fun o => ?_, (g5.keep (hp'.below.block b g3 hng)).tr renA⟩
        cases hm : k'.m b o with
        | none => rfl
        | some u =>
          have := hmnone b g3 hng o u hm
          rw [g4 o] at this
          cases this
    dom := fun r b hb => by
      simp only [List.length_append, List.length_map, List.length_drop]
      rw [hlen2]
      rcases Nat.lt_or_ge r L with g | g
      · omega
      · rw [hkng r (by omega)] at hb
        have := hp'.dom _ _ hb
        omega
    inj := fun r r' b hb hb' => by
      rcases Nat.lt_or_ge r L with g | g
      · rw [hknl r g] at hb
        rcases Nat.lt_or_ge r' L with g' | g'
        · rw [hknl r' g'] at hb'
          exact hs.inj r r' b hb hb'
        · rw [hkng r' (by omega)] at hb'
          by_cases hmem : r ∈ refs
          · obtain ⟨i, hi⟩ := List.mem_iff_getElem?.1 hmem
            have h1 : k'.μ i = some b := by rw [hμi i r hi]; exact hb
            have := hp'.inj _ _ b h1 hb'
            have := (List.getElem?_eq_some_iff.1 hi).1
            omega
          · have := (hp'.lt hb').1
            exact (hapart b (hs.lt hb).2.1 (hngivo r b hb hmem) this).elim
      · rw [hkng r (by omega)] at hb
        rcases Nat.lt_or_ge r' L with g' | g'
        · rw [hknl r' g'] at hb'
          by_cases hmem : r' ∈ refs
          · obtain ⟨i, hi⟩ := List.mem_iff_getElem?.1 hmem
            have h1 : k'.μ i = some b := by rw [hμi i r' hi]; exact hb'
            have := hp'.inj _ _ b h1 hb
            have := (List.getElem?_eq_some_iff.1 hi).1
            omega
          · have := (hp'.lt hb).1
            exact (hapart b (hs.lt hb').2.1 (hngivo r' b hb' hmem) this).elim
        · rw [hkng r' (by omega)] at hb'
          have := hp'.inj _ _ b hb hb'
          omega
    tok := fun t v e z n ht => by
      rcases hsrc t _ ht with ⟨h1, h2, h3⟩ | ⟨t0, h1, h2⟩
      · obtain ⟨⟨xs', g1⟩, g2⟩ := hs.tok t v e z n h1
        have hng := hngiven t v e z n h1 h2 h3
        refine ⟨⟨xs', ownsRow_keep (fun g hg hlt => hp'.below.block g hlt (hng g hg)) g1⟩, fun g hg => ⟨(g2 g hg).1, fun o ho => ?_, fun r hb => ?_⟩⟩
        · have hlt := (hs.tlt h1 hg).2
          cases hm : k'.m g o with
          | none => rfl
          | some u =>
            have := hmnone g hlt (hng g hg) o u hm
            rw [(g2 g hg).2.1 o ho] at this
            cases this
        · rcases Nat.lt_or_ge r L with g' | g'
          · rw [hknl r g'] at hb
            exact (g2 g hg).2.2 r hb
          · rw [hkng r (by omega)] at hb
            exact hapart g (hs.tlt h1 hg).2 (hng g hg) (hp'.lt hb).1
      · obtain ⟨g1, g2⟩ := hp'.tok t0 v e z n h1
        refine ⟨g1, fun g hg => ⟨hmine g (g2 g hg).1, (g2 g hg).2.1, fun r hb => ?_⟩⟩
        rcases Nat.lt_or_ge r L with g' | g'
        · rw [hknl r g'] at hb
          by_cases hmem : r ∈ refs
          · obtain ⟨i, hi⟩ := List.mem_iff_getElem?.1 hmem
            exact (g2 g hg).2.2 i (by rw [hμi i r hi]; exact hb)
          · exact hapart g (hs.lt hb).2.1 (hngivo r g hb hmem) (g2 g hg).1
        · rw [hkng r (by omega)] at hb
          exact (g2 g hg).2.2 _ hb
    tokne := fun t t' v e z n v' e' z' n' ht ht' hne g hg hg' => by
      rcases hsrc t _ ht with ⟨h1, h2, h3⟩ | ⟨t0, h1, h2⟩
      · rcases hsrc t' _ ht' with ⟨h1', h2', h3'⟩ | ⟨t0', h1', h2'⟩
        · exact hs.tokne t t' v e z n v' e' z' n' h1 h1' hne g hg hg'
        · exact hapart g (hs.tlt h1 hg).2 (hngiven t v e z n h1 h2 h3 g hg) (hp'.tlt h1' hg').1
      · rcases hsrc t' _ ht' with ⟨h1', h2', h3'⟩ | ⟨t0', h1', h2'⟩
        · exact hapart g (hs.tlt h1' hg').2 (hngiven t' v' e' z' n' h1' h2' h3' g hg') (hp'.tlt h1 hg).1
        · exact hp'.tokne t0 t0' v e z n v' e' z' n' h1 h1' (fun e => hne (by subst e; rw [h2] at h2'; exact Option.some.inj h2')) g hg hg'
    m0 := fun b o u hm hb hmd => by
      have hb' : b < w.heap.size := Nat.lt_of_lt_of_le hb hs.below.size
      refine hs.m0 b o u (hmnone b hb' (fun hg => ?_) o u hm) hb hmd
      rcases (hgm b hg).1 with h1 | h1
      · omega
      · exact hmd h1
    size := hs.size
    fr := fun j => RepX.tr renA _ _ (hs.fr j)
    fresh := fun t p ht => by
      rcases hsrc t p ht with ⟨h1, _, _⟩ | ⟨t0, h1, h2⟩
      · have := hs.fresh t p h1
        cases t with
        | nm c ix' i => exact this.imp id (fun ⟨a, b⟩ => ⟨a, .inl b⟩)
        | cell r off => trivial
      · unfold rhoBack at h2
        split at h2
        · cases h2; exact .inr ⟨rfl, .inr rfl⟩
        · cases h2
        · cases h2; trivial
    cells := fun r off p ht => by
      simp only [List.length_append, List.length_map, List.length_drop]
      rw [hlen2]
      rcases Nat.lt_or_ge r L with g | g
      · omega
      · have ht' : ow' (.cell (m + (r - L)) off) = some p := by
          have : (if r < L then (match pos refs r with
            | some i => ow' (.cell i off)
            | none => if Tk.cell r off ∈ ts then none else ow (.cell r off)) else ow' (.cell (m + (r - L)) off)) = some p := ht
          rwa [if_neg (by omega)] at this
        have := hcl _ _ _ ht'
        omega }

theorem X.tr_id : ∀ x : X, x.tr some some = x :=
  X.rec (motive_1 := fun x => x.tr some some = x) (motive_2 := fun xs => X.trs some some xs = xs) (fun _ => rfl) rfl (fun _ _ _ _ _ => rfl) (fun _ _ => rfl) (fun _ => rfl)
    (fun f xs ih => by simp only [X.tr, ih]) (fun xs ih => by simp only [X.tr, ih]) (fun xs ih => by simp only [X.tr, ih]) rfl (fun x xs h1 h2 => by simp only [X.trs, h1, h2])
theorem X.trs_id (xs : List X) : X.trs some some xs = xs := by
  induction xs with
  | nil => rfl
  | cons x xs ih => simp only [X.trs, X.tr_id, ih]
theorem Ob.tr_id (o : Ob) : o.tr some some = o := by
  cases o with
  | var ty xs => simp only [Ob.tr, X.trs_id]
  | map es => rfl
theorem keepTk_nil : keepTk [] [] = some := by
  funext t
  cases t <;> simp [keepTk]

/-- A call on plain data, from where it is made. -/
theorem call_sound (hs : Sim M0 k ow done w0 w N s tmps) {f : Nat} {cs : List C} {rs : List X} {vs : List Value} {ix : Nat} (hsound : Sound P M0.G f (cs.map .of) [] ⟨false, rs, []⟩) (hc : callable P f = true) (hvs : RepL k.m cs vs) (hd : ¬ done ix) :
    Calls P f vs.toArray w fun e w' => ∃ v kn own, e = .returned v ∧ k.le kn ∧ Sim M0 kn own (fun j => done j ∨ j = ix) w0 w' N s tmps ∧ RepX kn own (oneX (nameX s.clk ix rs)) v := by
  refine (call_core (refs := []) (ts := []) (obs := []) hs List.nodup_nil List.nodup_nil rfl hsound hc (RepXs.of (by exact hvs)) hd).mono fun e w' ⟨us, kn, own, h1, h2, _, h3, h4⟩ => ?_
  simp only [EndsAs] at h1
  refine ⟨retOf us, kn, own, h1, h2, ?_, oneX_rep ?_⟩
  · have e1 : (fun j => (s.fr j).tr some (keepTk [] [])) = s.fr := by funext j; rw [keepTk_nil, X.tr_id]
    have e2 : s.objs.map (Ob.tr some (keepTk [] [])) = s.objs := by
      rw [keepTk_nil]
      have : Ob.tr some some = id := by funext o; exact Ob.tr_id o
      rw [this, List.map_id]
    simp only [setObs, List.length_nil, List.drop_nil, List.map_nil, List.append_nil, e1, e2] at h3
    exact h3
  · have hren : Ren (fun _ => none) some kn kn own own := ⟨fun _ _ _ h => h, fun r b r' _ he => (by cases he), fun t p t' ht he => (by cases he; exact ht)⟩
    have h5 := RepXs.tr hren _ _ h4
    have key : ∀ x : X, (x.tr (fun i => some (sigBack [] s.objs.length i)) (rhoBack [] s.objs.length s.clk ix)).tr (fun _ => none) some = x.tr (fun _ => none) (rhoBack [] s.objs.length s.clk ix) :=
      X.rec (motive_1 := fun x => (x.tr (fun i => some (sigBack [] s.objs.length i)) (rhoBack [] s.objs.length s.clk ix)).tr (fun _ => none) some = x.tr (fun _ => none) (rhoBack [] s.objs.length s.clk ix))
        (motive_2 := fun xs => X.trs (fun _ => none) some (X.trs (fun i => some (sigBack [] s.objs.length i)) (rhoBack [] s.objs.length s.clk ix) xs) = X.trs (fun _ => none) (rhoBack [] s.objs.length s.clk ix) xs)
        (fun _ => rfl) rfl (fun t e z cs n => by simp only [X.tr]; split <;> rfl) (fun _ _ => rfl) (fun _ => rfl)
        (fun f xs ih => by simp only [X.tr, ih]) (fun xs ih => by simp only [X.tr, ih]) (fun xs ih => by simp only [X.tr, ih]) rfl (fun x xs h1 h2 => by simp only [X.trs, h1, h2])
    have keys : ∀ xs : List X, X.trs (fun _ => none) some (X.trs (fun i => some (sigBack [] s.objs.length i)) (rhoBack [] s.objs.length s.clk ix) xs) = X.trs (fun _ => none) (rhoBack [] s.objs.length s.clk ix) xs := fun xs => by
      induction xs with
      | nil => rfl
      | cons x xs ih => simp only [X.trs, key, ih]
    rw [keys] at h5
    -- names of cells: there is no object
    have hren2 : Ren (fun _ => none) (fun t => match t with | .nm .. => some t | .cell .. => none) kn kn own own := ⟨fun _ _ _ h => h, fun r b r' _ he => (by cases he), fun t p t' ht he => by
      cases t with
      | nm c ix' i => cases he; exact ht
      | cell r off => cases he⟩
    have h6 := RepXs.tr hren2 _ _ h5
    have key2 : ∀ x : X, (x.tr (fun _ => none) (rhoBack [] s.objs.length s.clk ix)).tr (fun _ => none) (fun t => match t with | .nm .. => some t | .cell .. => none) = x.tr (fun _ => none) (nameTk s.clk ix) :=
      X.rec (motive_1 := fun x => (x.tr (fun _ => none) (rhoBack [] s.objs.length s.clk ix)).tr (fun _ => none) (fun t => match t with | .nm .. => some t | .cell .. => none) = x.tr (fun _ => none) (nameTk s.clk ix))
        (motive_2 := fun xs => X.trs (fun _ => none) (fun t => match t with | .nm .. => some t | .cell .. => none) (X.trs (fun _ => none) (rhoBack [] s.objs.length s.clk ix) xs) = X.trs (fun _ => none) (nameTk s.clk ix) xs)
        (fun _ => rfl) rfl
        (fun t e z cs n => by
          cases t with
          | nm c ix' i =>
            match c, ix' with
            | 0, 0 => rfl
            | 0, _ + 1 => rfl
            | _ + 1, _ => rfl
          | cell r off => rfl) (fun _ _ => rfl) (fun _ => rfl)
        (fun f xs ih => by simp only [X.tr, ih]) (fun xs ih => by simp only [X.tr, ih]) (fun xs ih => by simp only [X.tr, ih]) rfl (fun x xs h1 h2 => by simp only [X.trs, h1, h2])
    have keys2 : ∀ xs : List X, X.trs (fun _ => none) (fun t => match t with | .nm .. => some t | .cell .. => none) (X.trs (fun _ => none) (rhoBack [] s.objs.length s.clk ix) xs) = X.trs (fun _ => none) (nameTk s.clk ix) xs := fun xs => by
      induction xs with
      | nil => rfl
      | cons x xs ih => simp only [X.trs, key2, ih]
    rw [keys2] at h6
    exact h6

theorem wp_value {o : Oper} {a : Act} {K : Act → World → Prop} {Q : Exit → Act → World → Prop} {u : Value} {w' : World} (hr : (execOp a.eval o).run P w = .ok (.value u) w') (hK : K (a.put o.dst u) w') : o.wp P a w K Q := by
  unfold Oper.wp
  rw [hr]
  exact hK

theorem out_inv {x y : X} {e : Option Tk} (h : out x = some (y, e)) : x = y ∧ e = none := by
  simp only [out, Option.some.injEq, Prod.mk.injEq] at h
  exact ⟨h.1, h.2.symm⟩
theorem outO_inv {x : Option X} {y : X} {e : Option Tk} (h : outO x = some (y, e)) : x = some y ∧ e = none := by
  simp only [outO, Option.map_eq_some_iff, Prod.mk.injEq] at h
  obtain ⟨a, h1, rfl, h2⟩ := h
  exact ⟨h1, h2.symm⟩

/-- Every operation that turns no object. -/
theorem val_sound (hs : Sim M0 k ow done w0 w N s tmps) {E : En} (horc : ∀ f xs obs an, E.orc f xs obs = some an → Sound P M0.G f xs obs an) {ix : Nat} (hd : ¬ done ix) {o : Oper} {x : X} {e : Option Tk}
    (h : val P (TT.of P) E s ix o = some (x, e)) {K : Act → World → Prop} {Q : Exit → Act → World → Prop}
    (hK : ∀ u w' k' ow', k.le k' → Sim M0 k' ow' (fun j => done j ∨ j = ix) w0 w' N (s.drop e) tmps → RepX k' ow' x u → K ((⟨tmps, []⟩ : Act).put o.dst u) w') : o.wp P ⟨tmps, []⟩ w K Q := by
  have hs1 := hs.more (done' := fun j => done j ∨ j = ix) (fun _ h => .inl h)
  have hnew : ow (.nm s.clk ix 0) = none := hs.new hd
  have plain : ∀ u, e = none → (execOp (⟨tmps, []⟩ : Act).eval o).run P w = .ok (.value u) w → RepX k ow x u → o.wp P ⟨tmps, []⟩ w K Q := by
    rintro u rfl hr hx
    exact wp_value hr (hK u w k ow (Know.le_refl k) hs1 hx)
  have ev := fun x => hs.ev x
  unfold val at h
  split at h
  · -- move
    rename_i y ho
    obtain ⟨rfl, rfl⟩ := out_inv h
    exact plain _ rfl (by simp [execOp, ho]) (ev y)
  · rename_i y ho
    obtain ⟨rfl, rfl⟩ := out_inv h
    exact plain _ rfl (by simp [execOp, ho]) (ev y)
  · -- pick
    rename_i c a b ho
    split at h
    · rename_i b' hb
      have hc := lit_bool hb (ev c)
      obtain ⟨rfl, rfl⟩ := out_inv h
      cases b' with
      | true => exact plain ((⟨tmps, []⟩ : Act).eval a) rfl (by simp [execOp, ho, hc, asBool]) (by simpa using ev a)
      | false => exact plain ((⟨tmps, []⟩ : Act).eval b) rfl (by simp [execOp, ho, hc, asBool]) (by simpa using ev b)
    · cases h
  · -- binOp
    rename_i op t y z yt ho
    unfold binX at h
    split at h
    · rename_i u v hu hv
      have h' := outO_inv h; clear h; obtain ⟨h, rfl⟩ := h'
      simp only [Option.map_eq_some_iff] at h
      obtain ⟨r, hr, rfl⟩ := h
      have h1 := litOf_rep hu (ev y)
      have h2 := litOf_rep hv (ev z)
      obtain ⟨g1, g2⟩ := binLit_sound (w := w) y z hr
      refine plain r rfl ?_ (by simp [RepX, Rep, g2])
      simp only [execOp, ho, h1, h2, Sem.run_bind, g1, Result.andThen_ok, Sem.run_pure]
    · cases hu : (s.ev y).rd with
      | none => rw [hu] at h; cases h
      | some cu =>
        cases hv : (s.ev z).rd with
        | none => rw [hu, hv] at h; unfold binAgg at h; split at h <;> simp_all
        | some cv =>
          obtain ⟨b, rfl, rfl, g1⟩ := binAgg_sound (w := w) y z h hu hv (repX_rd _ _ _ hu (ev y)) (repX_rd _ _ _ hv (ev z))
          refine plain (.bool b) rfl ?_ (by simp [RepX, Rep, Value.oneCell'])
          simp only [execOp, ho, g1, Sem.run_bind, Result.andThen_ok, Sem.run_pure]
  · -- unOp
    rename_i op t y ho
    split at h
    · rename_i u hu
      have h' := outO_inv h; clear h; obtain ⟨h, rfl⟩ := h'
      simp only [Option.map_eq_some_iff] at h
      obtain ⟨r, hr, rfl⟩ := h
      have h1 := ev y
      rw [hu] at h1
      simp only [RepX, Rep] at h1
      obtain ⟨g1, g2⟩ := unLit_sound (P := P) (w := w) hr
      exact plain r rfl (by simp [execOp, ho, h1.1, g1]) (by simp [RepX, Rep, g2])
    · cases h
  · -- load
    rename_i t a ho
    obtain ⟨rfl, u, hr, hx⟩ := load_sound hs.toHp h (ev a)
    exact plain u rfl (by simp [execOp, ho, hr]) hx
  · rename_i t y f ho
    obtain ⟨rfl, u, hr, hx⟩ := fieldAddr_sound (w := w) h (ev y)
    exact plain u rfl (by simp [execOp, ho, hr]) hx
  · rename_i t y f ho
    obtain ⟨rfl, u, hr, hx⟩ := field_sound (w := w) h (ev y)
    exact plain u rfl (by simp [execOp, ho, hr]) hx
  · rename_i t y i ho
    obtain ⟨rfl, u, hr, hx⟩ := indexAddr_sound (w := w) h (ev y) (ev i)
    exact plain u rfl (by simp [execOp, ho, hr]) hx
  · rename_i t y i ho
    obtain ⟨rfl, u, hr, hx⟩ := index_sound (w := w) h (ev y) (ev i)
    exact plain u rfl (by simp [execOp, ho, hr]) hx
  · -- slice
    rename_i t y lo hi ho
    have hlo : ∀ z : Option Operand, RepO k ow (z.map s.ev) (z.map fun x => (⟨tmps, []⟩ : Act).eval x) := fun z => by
      cases z with
      | none => trivial
      | some z => exact ev z
    obtain ⟨rfl, u, hr, hx⟩ := slice_sound (w := w) h (ev y) (hlo lo) (hlo hi)
    exact plain u rfl (by simp only [execOp, ho, Sem.run_bind, Option.map_none, hr, Result.andThen_ok, Sem.run_pure]) hx
  · -- build
    rename_i t ps ho
    split at h
    · rename_i d qs hT hq
      have hp := partsX_rep (k := k) (ow := ow) ev ps.toList qs hq
      have hpe : ps.toList.map (fun p => (p.1, (⟨tmps, []⟩ : Act).eval p.2)) = (ps.map fun (i, x) => (i, (⟨tmps, []⟩ : Act).eval x)).toList := by simp
      rw [hpe] at hp
      split at h
      · rename_i fs hu
        have h' := outO_inv h; clear h; obtain ⟨h, rfl⟩ := h'
        simp only [Option.map_eq_some_iff] at h
        obtain ⟨xs, hx, rfl⟩ := h
        obtain ⟨u, hr, hx⟩ := build_sound (w := w) hT hu hp hx
        exact plain u rfl (by simp [execOp, ho, hr]) hx
      · rename_i n el hu
        split at h
        · rename_i de hE
          have h' := outO_inv h; clear h; obtain ⟨h, rfl⟩ := h'
          simp only [Option.map_eq_some_iff] at h
          obtain ⟨xs, hx, rfl⟩ := h
          obtain ⟨u, hr, hx⟩ := build_array_sound (w := w) hT hu hE hp hx
          exact plain u rfl (by simp [execOp, ho, hr]) hx
        · cases h
      · cases h
    · cases h
  · -- buildSlice
    rename_i t n ps ho
    split at h
    · rename_i el d qs he hq
      have hp := partsX_rep (k := k) (ow := ow) ev ps.toList qs hq
      have hpe : ps.toList.map (fun p => (p.1, (⟨tmps, []⟩ : Act).eval p.2)) = (ps.map fun (i, x) => (i, (⟨tmps, []⟩ : Act).eval x)).toList := by simp
      rw [hpe] at hp
      split at h
      · rename_i hc
        split at h
        · rename_i xs hx
          split at h
          · rename_i cs hcs
            obtain ⟨rfl, rfl⟩ := out_inv h
            obtain ⟨u, w', k', ow', hr, g1, g2, g3⟩ := buildSlice_sound hs1 he hc.1 hc.2.1 hp hx hcs hnew (.inr ⟨rfl, .inr rfl⟩)
            exact wp_value (by simp [execOp, ho, hr]) (hK u w' k' ow' g1 g2 g3)
          · cases h
        · cases h
      · cases h
    · cases h
  · -- extract
    rename_i y i ho
    have h1 := ev y
    split at h
    · rename_i xs hy
      have h' := outO_inv h; clear h; obtain ⟨h, rfl⟩ := h'
      rw [hy] at h1
      simp only [RepX] at h1
      obtain ⟨vs, hv, hl⟩ := h1
      obtain ⟨u, hu, hx⟩ := hl.get i x h
      exact plain u rfl (by simp [execOp, ho, hv, Instr.extract, hu]) hx
    · rename_i cs hy
      have h' := outO_inv h; clear h; obtain ⟨h, rfl⟩ := h'
      simp only [Option.map_eq_some_iff] at h
      obtain ⟨c, hc, rfl⟩ := h
      rw [hy] at h1
      simp only [RepX, Rep] at h1
      obtain ⟨vs, hv, hl⟩ := h1
      obtain ⟨u, hu, hx⟩ := hl.get i c hc
      exact plain u rfl (by simp [execOp, ho, hv, Instr.extract, hu]) (by simpa only [RepX] using hx)
    · cases h
  · -- nilCheck
    rename_i y ho
    have h1 := ev y
    split at h
    · rename_i r off hy
      obtain ⟨rfl, rfl⟩ := out_inv h
      rw [hy] at h1
      have h2 := h1
      simp only [RepX] at h1
      obtain ⟨b, hb, hv⟩ := h1
      exact plain ((⟨tmps, []⟩ : Act).eval y) rfl (by rw [hv]; simp [execOp, ho, hv]) h2
    · rename_i cs hy
      obtain ⟨rfl, rfl⟩ := out_inv h
      rw [hy] at h1
      have h2 := h1
      simp only [RepX, Rep] at h1
      obtain ⟨b, o', vs, hv, _⟩ := h1
      exact plain ((⟨tmps, []⟩ : Act).eval y) rfl (by rw [hv]; simp [execOp, ho, hv]) h2
    · cases h
  · -- makeFunc
    rename_i f first caps ho
    split at h
    · rename_i h0
      have h0' : first = #[] := Array.eq_empty_of_size_eq_zero h0
      subst h0'
      split at h
      · rename_i cs hcs
        obtain ⟨rfl, rfl⟩ := out_inv h
        have hl := rdAll_rep hs _ _ hcs
        refine plain (.func (.func f) #[] (caps.map fun x => (⟨tmps, []⟩ : Act).eval x)) rfl ?_ ?_
        · simp [execOp, ho, Instr.makeFunc]
        · simp only [RepX, Rep]
          exact ⟨(caps.map fun x => (⟨tmps, []⟩ : Act).eval x).toList, by rw [Array.toArray_toList], by rw [Array.toList_map]; exact hl⟩
      · cases h
    · cases h
  · rename_i a b y ho
    obtain ⟨rfl, u, hr, hx⟩ := convert_sound (w := w) (fun b o v hm => (hs.mem b o v hm).1) h (ev y)
    exact plain u rfl (by simp [execOp, ho, hr]) hx
  · rename_i t y i ok ho
    obtain ⟨rfl, u, hr, hx⟩ := lookup_sound hs h (ev y) (ev i)
    exact plain u rfl (by simp [execOp, ho, hr]) hx
  · rename_i t y ho
    split at h
    · rename_i c hD hc
      obtain ⟨rfl, rfl⟩ := out_inv h
      have hrep := repX_rd _ _ _ hc (ev y)
      refine plain (.iface t ((⟨tmps, []⟩ : Act).eval y)) rfl ?_ (by simp only [RepX, Rep]; exact ⟨_, rfl, hrep⟩)
      cases hT : TT.of P t with
      | none => simp [hT, ifcD] at hD
      | some d =>
        have hund := (TT.of_ok hT).run_und w
        rw [hT] at hD
        simp only [Option.map_some] at hD
        have hmk : (Instr.makeInterface t ((⟨tmps, []⟩ : Act).eval y)).run P w = .ok (.iface t ((⟨tmps, []⟩ : Act).eval y)) w := by
          simp only [Instr.makeInterface, Sem.run_bind, hund, Result.andThen_ok]
          split
          · rename_i ms e
            rw [e] at hD
            simp [ifcD] at hD
          · rfl
        simp [execOp, ho, hmk]
    · cases h
  · rename_i cal args tys ho
    unfold valCall at h
    split at h
    · -- len
      rename_i y t hargs htys
      obtain ⟨rfl, u, hr, hx⟩ := len_sound (w := w) (ty := o.type) h (ev y)
      have ha : args = #[y] := by rw [← Array.toArray_toList (xs := args), hargs]
      have ht : tys = #[t] := by rw [← Array.toArray_toList (xs := tys), htys]
      subst ha; subst ht
      exact plain u rfl (by simp [execOp, ho, resolve, invoke, builtin, hr]) hx
    · -- append
      rename_i a b st xt hargs htys
      obtain ⟨u, w', k', ow', hr, g1, g2, g3⟩ := append_sound (ty := o.type) hs1 h (ev a) (ev b) hnew (.inr ⟨rfl, .inr rfl⟩)
      have ha : args = #[a, b] := by rw [← Array.toArray_toList (xs := args), hargs]
      have ht : tys = #[st, xt] := by rw [← Array.toArray_toList (xs := tys), htys]
      subst ha; subst ht
      exact wp_value (by simp [execOp, ho, resolve, invoke, builtin, hr]) (hK u w' k' ow' g1 g2 g3)
    · -- min
      rename_i a b hargs
      unfold minX at h
      split at h
      · rename_i m n hm hn
        obtain ⟨rfl, rfl⟩ := out_inv h
        have ha : args = #[a, b] := by rw [← Array.toArray_toList (xs := args), hargs]
        subst ha
        have e1 := lit_int hm (ev a)
        have e2 := lit_int hn (ev b)
        exact plain (.int .i64 (if n < m then n else m)) rfl (by simp [execOp, ho, resolve, invoke, builtin, e1, e2, Builtin.min_, Builtin.min2]) ⟨rfl, rfl⟩
      · cases h
    · -- a call
      rename_i f
      split at h
      · rename_i g caps cs hf hcs
        unfold callX at h
        split at h
        · rename_i hc
          simp only [Bool.and_eq_true] at hc
          replace hc := hc.1
          split at h
          · rename_i r hr
            obtain ⟨rfl, rfl⟩ := out_inv h
            have hl := rdAll_rep hs _ _ hcs
            have hfv := ev f
            rw [hf] at hfv
            simp only [RepX, Rep] at hfv
            obtain ⟨cvs, hfv, hcl⟩ := hfv
            have hcall := call_sound (w := w) hs (horc g _ _ _ hr) hc (hl.append hcl) hd
            have hrun : (execOp (⟨tmps, []⟩ : Act).eval o).run P w = .ok (.enter g ((args.toList.map fun x => (⟨tmps, []⟩ : Act).eval x) ++ cvs).toArray) w := by
              unfold callable at hc
              split at hc
              · rename_i fn hfn
                simp only [Bool.and_eq_true, Bool.not_eq_true', Option.isSome_iff_exists] at hc
                obtain ⟨⟨b, hb⟩, hn⟩ := hc
                have hn' : ¬ fn.name = "runtime.NumGoroutine" := by simpa using hn
                have hargs : ((args.toList.map fun x => (⟨tmps, []⟩ : Act).eval x) ++ cvs).toArray = Array.map (fun x => (⟨tmps, []⟩ : Act).eval x) args ++ cvs.toArray := by
                  apply Array.ext'
                  simp
                rw [hargs]
                simp [execOp, ho, resolve, hfv, Deferred.ofValue, invoke, callFunc, hfn, hn', hb]
              · cases hc
            unfold Oper.wp
            rw [hrun]
            simp only [Oper.upon]
            refine hcall.mono fun e w' ⟨v, k', ow', he, g1, g2, g3⟩ => ?_
            subst he
            exact hK v w' k' ow' g1 g2 g3
          · cases h
        · cases h
      · cases h
    · cases h
  · cases h
end
end Go.Pe
namespace Go.Pe
open Go.RowKit

section
variable {P : Program} {M0 : Base} {k : Know} {ow : Own} {done : Nat → Prop} {w0 w : World} {N : Nat} {s : S} {tmps : Array Value}

/-- A new object. -/
theorem Sim.newOb (h : Sim M0 k ow done w0 w N s tmps) {ob : Ob} (o : Obj) (hob : ∀ k' w', k.le k' → w'.heap[w.heap.size]? = some o → ObRep k' ow w' w.heap.size ob) :
    ∃ k', k.le k' ∧ k'.μ s.objs.length = some w.heap.size ∧ Sim M0 k' ow done w0 (w.alloc o) N { s with objs := s.objs ++ [ob] } tmps := by
  let k' : Know := { m := k.m, μ := fun r => if r = s.objs.length then some w.heap.size else k.μ r }
  have hle : k.le k' := ⟨fun _ _ _ h => h, fun r b hr => by
    have := h.dom r b hr
    show (if r = s.objs.length then some w.heap.size else k.μ r) = some b
    rw [if_neg (by omega)]; exact hr⟩
  have hb : Below w.heap.size w (w.alloc o) := (Below.refl _ _).alloc (Nat.le_refl _) _
  have hg := h.grow hb
  refine ⟨k', hle, by simp [k'], ?_⟩
  exact {
    good := hg.good
    size := hg.size
    below := hg.below
    fr := fun j => RepX.mono hle (fun _ _ h => h) _ _ (hg.fr j)
    mem := hg.mem
    obj := fun r ob' hr => by
      by_cases hlast : r = s.objs.length
      · subst hlast
        simp at hr
        subst hr
        refine ⟨w.heap.size, by simp [k'], .inl h.below.size, by simp, fun o' => ?_, hob _ _ hle (heap_alloc_new w _)⟩
        show k.m w.heap.size o' = none
        cases hm : k.m w.heap.size o' with
        | none => rfl
        | some u => have := mem_lt h.mem hm; omega
      · have hr' : s.objs[r]? = some ob' := by
          rcases Nat.lt_or_ge r s.objs.length with g | g
          · rwa [List.getElem?_append_left g] at hr
          · rw [List.getElem?_append_right g] at hr
            have : r - s.objs.length ≠ 0 := by omega
            obtain ⟨q, hq⟩ := Nat.exists_eq_succ_of_ne_zero this
            rw [hq] at hr
            simp at hr
        obtain ⟨b, g1, g2, g3, g4, g5⟩ := hg.obj r ob' hr'
        exact ⟨b, hle.2 _ _ g1, g2, g3, g4, g5.mono hle (fun _ _ h => h)⟩
    dom := fun r b hr => by
      simp only [k'] at hr
      simp only [List.length_append, List.length_singleton]
      split at hr
      · omega
      · have := h.dom r b hr; omega
    inj := fun r r' b hr hr' => by
      simp only [k'] at hr hr'
      split at hr
      · split at hr'
        · omega
        · have := (h.lt hr').2.1
          have := Option.some.inj hr
          omega
      · split at hr'
        · have := (h.lt hr).2.1
          have := Option.some.inj hr'
          omega
        · exact h.inj r r' b hr hr'
    tok := fun t v e z n ht => by
      obtain ⟨g1, g2⟩ := hg.tok t v e z n ht
      refine ⟨g1, fun g hgo => ⟨(g2 g hgo).1, (g2 g hgo).2.1, fun r hr => ?_⟩⟩
      simp only [k'] at hr
      split at hr
      · have := (h.tlt ht hgo).2
        have := Option.some.inj hr
        omega
      · exact (g2 g hgo).2.2 r hr
    tokne := hg.tokne
    fresh := hg.fresh
    cells := fun r off p ht => by
      have := h.cells r off p ht
      simp only [List.length_append, List.length_singleton]
      omega
    m0 := hg.m0 }

theorem Sim.newVar (h : Sim M0 k ow done w0 w N s tmps) {xs : List X} {vs : List Value} (ty : TypeId) (hx : RepXs k ow xs vs) (h1 : ∀ u ∈ vs, u.oneCell' = true) :
    ∃ k', k.le k' ∧ k'.μ s.objs.length = some w.heap.size ∧ Sim M0 k' ow done w0 (w.alloc (.cells vs.toArray ty)) N { s with objs := s.objs ++ [Ob.var ty xs] } tmps :=
  h.newOb _ fun _ _ hle hh => ⟨vs, hh, h1, RepXs.mono hle (fun _ _ h => h) _ _ hx⟩

/-- An object written to. -/
theorem Sim.setOb (h : Sim M0 k ow done w0 w N s tmps) {r b : Nat} {ob : Ob} {w' : World} (hb : k.μ r = some b) (hr : r < s.objs.length) (hbel : w'.os = w.os ∧ w'.tape = w.tape ∧ w'.output = w.output) (hsz : w'.heap.size = w.heap.size)
    (hoth : ∀ c, c ≠ b → w'.heap[c]? = w.heap[c]?) (hob : ObRep k ow w' b ob) : Sim M0 k ow done w0 w' N { s with objs := s.objs.set r ob } tmps := by
  obtain ⟨b', g1, g2, g3, g4, _⟩ := h.obj r _ (List.getElem?_eq_getElem hr)
  obtain rfl : b = b' := Option.some.inj (hb.symm.trans g1)
  exact {
    good := h.good
    size := h.size
    below := ⟨hbel.1.trans h.below.os, hbel.2.1.trans h.below.tape, hbel.2.2.trans h.below.output, by rw [hsz]; exact h.below.size, fun c hc hm => (hoth c (fun e => by
      subst e
      rcases g2 with g2 | g2
      · omega
      · exact hm g2)).trans (h.below.block c hc hm)⟩
    fr := h.fr
    mem := fun c o v hm => by
      obtain ⟨q1, q2⟩ := h.mem c o v hm
      have hne : c ≠ b := by rintro rfl; rw [g4 o] at hm; cases hm
      exact ⟨(World.cell?_of_block (a := ⟨c, o, none⟩) (hoth c hne)).trans q1, q2⟩
    obj := fun r' ob' hr' => by
      by_cases hrr : r' = r
      · subst hrr
        rw [List.getElem?_set_self hr] at hr'
        simp only [Option.some.injEq] at hr'
        subst hr'
        exact ⟨b, hb, g2, by rw [hsz]; exact g3, g4, hob⟩
      · rw [List.getElem?_set_ne (Ne.symm hrr)] at hr'
        obtain ⟨c, q1, q2, q3, q4, q5⟩ := h.obj r' ob' hr'
        have hne : c ≠ b := fun e => hrr (h.inj r' r c q1 (by rw [e]; exact hb))
        exact ⟨c, q1, q2, by rw [hsz]; exact q3, q4, q5.keep (hoth c hne)⟩
    dom := fun r' c hr' => by simpa using h.dom r' c hr'
    inj := h.inj
    tok := fun t v e z n ht => by
      obtain ⟨⟨xs, q1⟩, q2⟩ := h.tok t v e z n ht
      exact ⟨⟨xs, ownsRow_keep (fun g hg _ => hoth g (fun e => (q2 g hg).2.2 r (by rw [e]; exact hb))) q1⟩, q2⟩
    tokne := h.tokne
    fresh := h.fresh
    cells := fun r' off p ht => by simpa using h.cells r' off p ht
    m0 := h.m0 }

theorem Sim.setVar (h : Sim M0 k ow done w0 w N s tmps) {r b : Nat} {ys : List X} {vs : List Value} (hb : k.μ r = some b) {old : Array Value} {ty : TypeId} (hh : w.heap[b]? = some (.cells old ty (0, 0)))
    (hr : r < s.objs.length) (hx : RepXs k ow ys vs) (h1 : ∀ u ∈ vs, u.oneCell' = true) :
    Sim M0 k ow done w0 (w.setRow b vs.toArray) N { s with objs := s.objs.set r (Ob.var ty ys) } tmps := by
  obtain ⟨b', g1, g2, _⟩ := h.obj r _ (List.getElem?_eq_getElem hr)
  obtain rfl : b = b' := Option.some.inj (hb.symm.trans g1)
  have hsz : (w.setRow b vs.toArray).heap.size = w.heap.size := by simp [World.setRow]
  have hoth : ∀ c, c ≠ b → (w.setRow b vs.toArray).heap[c]? = w.heap[c]? := fun c hc => setRow_other w b c _ hc
  exact h.setOb hb hr ⟨rfl, rfl, rfl⟩ hsz hoth ⟨vs, setRow_heap w b old _ ty _ hh, h1, hx⟩

/-- A map written to. -/
theorem Sim.setMap (h : Sim M0 k ow done w0 w N s tmps) {r b cl cl' : Nat} {es : List (Value × C)} {ms ms' : Array MapEntry} (hb : k.μ r = some b) (hh : w.heap[b]? = some (.map ms cl)) (hr : r < s.objs.length)
    (hk : ms'.toList.map (·.key) = es.map (·.1)) (hv : RepL k.m (es.map (·.2)) (ms'.toList.map (·.val))) :
    Sim M0 k ow done w0 { w with heap := w.heap.setIfInBounds b (.map ms' cl') } N { s with objs := s.objs.set r (Ob.map es) } tmps := by
  obtain ⟨b', g1, g2, _⟩ := h.obj r _ (List.getElem?_eq_getElem hr)
  obtain rfl : b = b' := Option.some.inj (hb.symm.trans g1)
  have hlt : b < w.heap.size := (Array.getElem?_eq_some_iff.1 hh).1
  have hoth : ∀ c, c ≠ b → (w.heap.setIfInBounds b (.map ms' cl'))[c]? = w.heap[c]? := fun c hc => Array.getElem?_setIfInBounds_ne (Ne.symm hc)
  exact h.setOb hb hr ⟨rfl, rfl, rfl⟩ (by simp) hoth ⟨ms', cl', by simp [hlt], hk, hv⟩

structure EnSound (P : Program) (G : GP) (E : En) : Prop where
  orc : ∀ f xs obs an, E.orc f xs obs = some an → Sound P G f xs obs an

theorem evs_rep (hs : Sim M0 k ow done w0 w N s tmps) : ∀ l : List Operand, RepXs k ow (l.map s.ev) (l.map fun x => (⟨tmps, []⟩ : Act).eval x)
  | [] => by simp [RepXs]
  | x :: l => by simp only [List.map_cons, RepXs]; exact ⟨_, _, rfl, hs.ev x, evs_rep hs l⟩

open Classical in
/-- Rights under other names. -/
noncomputable def Own.img (ρ : Tk → Option Tk) (ow : Own) : Own := fun t' => if h : ∃ t p, ow t = some p ∧ ρ t = some t' then some h.choose_spec.choose else none
theorem Own.img_re {ρ : Tk → Option Tk} {ow : Own} (hi : ∀ t u t' , (ow t).isSome → (ow u).isSome → ρ t = some t' → ρ u = some t' → t = u) : ow.re ρ (ow.img ρ) := by
  refine ⟨fun t p t' ht hr => ?_, fun t' p h => ?_⟩
  · have hex : ∃ t p, ow t = some p ∧ ρ t = some t' := ⟨t, p, ht, hr⟩
    unfold Own.img
    rw [dif_pos hex]
    have h2 := hex.choose_spec.choose_spec
    have : hex.choose = t := hi _ _ t' (by rw [h2.1]; rfl) (by rw [ht]; rfl) h2.2 hr
    exact ((congrArg ow this).symm.trans h2.1).symm.trans ht
  · unfold Own.img at h
    split at h
    · rename_i hex
      simp only [Option.some.injEq] at h
      subst h
      exact ⟨_, hex.choose_spec.choose_spec.1, hex.choose_spec.choose_spec.2⟩
    · cases h

theorem cellTks_spec (r : Nat) : ∀ (off : Nat) (xs : List X) (t c : Tk), assoc (cellTks r off xs) t = some c → ∃ o, c = .cell r o ∧ off ≤ o ∧ o < off + xs.length
  | off, [], t, c, h => by simp [cellTks, assoc] at h
  | off, x :: xs, t, c, h => by
    have ih := cellTks_spec r (off + 1) xs t c
    have rest : assoc (cellTks r (off + 1) xs) t = some c → ∃ o, c = .cell r o ∧ off ≤ o ∧ o < off + (x :: xs).length := fun h => by
      obtain ⟨o, h1, h2, h3⟩ := ih h
      exact ⟨o, h1, by omega, by simp only [List.length_cons]; omega⟩
    cases x with
    | own t0 e z cs n =>
      simp only [cellTks, assoc] at h
      split at h
      · simp only [Option.some.injEq] at h
        exact ⟨off, h.symm, Nat.le_refl _, by simp⟩
      · exact rest h
    | _ => simp only [cellTks] at h; exact rest h

theorem cellTks_inj (r : Nat) : ∀ (off : Nat) (xs : List X) (t u c : Tk), assoc (cellTks r off xs) t = some c → assoc (cellTks r off xs) u = some c → t = u
  | off, [], t, u, c, h, _ => by simp [cellTks, assoc] at h
  | off, x :: xs, t, u, c, h, h' => by
    have ih := cellTks_inj r (off + 1) xs t u c
    cases x with
    | own t0 e z cs n =>
      simp only [cellTks, assoc] at h h'
      split at h
      · rename_i e1
        simp only [Option.some.injEq] at h
        split at h'
        · rename_i e2; exact e1.symm.trans e2
        · obtain ⟨o, h1, h2, _⟩ := cellTks_spec r (off + 1) xs u c h'
          rw [← h] at h1
          cases h1
          omega
      · split at h'
        · simp only [Option.some.injEq] at h'
          obtain ⟨o, h1, h2, _⟩ := cellTks_spec r (off + 1) xs t c h
          rw [← h'] at h1
          cases h1
          omega
        · exact ih h h'
    | _ => simp only [cellTks] at h h'; exact ih h h'

theorem moveTk_inj {r off n : Nat} {xs : List X} (hn : xs.length = n) {t u t' : Tk} (h : moveTk r off n (cellTks r off xs) t = some t') (h' : moveTk r off n (cellTks r off xs) u = some t') : t = u := by
  have key : ∀ t u : Tk, assoc (cellTks r off xs) t = some t' → assoc (cellTks r off xs) u = none → (match u with
      | .cell r' o' => if r' = r ∧ off ≤ o' ∧ o' < off + n then none else some u
      | .nm .. => some u) = some t' → False := by
    intro t u h1 _ h2
    obtain ⟨o, rfl, h3, h4⟩ := cellTks_spec r off xs t t' h1
    cases u with
    | nm c ix i => cases h2
    | cell r' o' =>
      simp only at h2
      split at h2
      · cases h2
      · rename_i hno
        simp only [Option.some.injEq, Tk.cell.injEq] at h2
        exact hno ⟨h2.1, by omega, by omega⟩
  have key2 : ∀ u : Tk, (match u with
      | .cell r' o' => if r' = r ∧ off ≤ o' ∧ o' < off + n then none else some u
      | .nm .. => some u) = some t' → u = t' := by
    intro u h2
    cases u with
    | nm c ix i => exact Option.some.inj h2
    | cell r' o' =>
      simp only at h2
      split at h2
      · cases h2
      · exact Option.some.inj h2
  unfold moveTk at h h'
  split at h
  · rename_i c h1
    simp only [Option.some.injEq] at h
    subst h
    split at h'
    · rename_i c' h1'
      simp only [Option.some.injEq] at h'
      subst h'
      exact cellTks_inj r off xs t u _ h1 h1'
    · rename_i h1'
      exact (key t u h1 h1' h').elim
  · rename_i h1
    split at h'
    · rename_i c' h1'
      simp only [Option.some.injEq] at h'
      subst h'
      exact (key u t h1' h1 h).elim
    · exact (key2 t h).trans (key2 u h').symm

theorem Sim.lay (h : Sim M0 k ow done w0 w N s tmps) {r off : Nat} {xs ys : List X} (hr : r < s.objs.length) : ∃ ow', Sim M0 k ow' done w0 w N (layS r off xs ys s) tmps := by
  unfold layS
  split
  · exact ⟨ow, h⟩
  · have hre : ow.re (moveTk r off xs.length (cellTks r off xs)) (ow.img (moveTk r off xs.length (cellTks r off xs))) := Own.img_re fun t u t' _ _ h1 h2 => moveTk_inj rfl h1 h2
    have hcase : ∀ t t', moveTk r off xs.length (cellTks r off xs) t = some t' → (∃ o, t' = .cell r o) ∨ t' = t := by
      intro t t' h1
      unfold moveTk at h1
      split at h1
      · rename_i c h2
        simp only [Option.some.injEq] at h1
        subst h1
        obtain ⟨o, h3, _⟩ := cellTks_spec r off xs t _ h2
        exact .inl ⟨o, h3⟩
      · cases t with
        | nm c ix i => exact .inr (Option.some.inj h1).symm
        | cell r' o' =>
          simp only at h1
          split at h1
          · cases h1
          · exact .inr (Option.some.inj h1).symm
    refine ⟨_, h.tr hre (fun t' p ht => ?_) (fun r' o' p ht => ?_)⟩
    · obtain ⟨t, g1, g2⟩ := hre.2 _ _ ht
      rcases hcase t t' g2 with ⟨o, rfl⟩ | rfl
      · trivial
      · exact h.fresh _ _ g1
    · obtain ⟨t, g1, g2⟩ := hre.2 _ _ ht
      rcases hcase t _ g2 with ⟨o, e⟩ | e
      · cases e; exact hr
      · subst e; exact h.cells _ _ _ g1

theorem RepL.set {m : Mem} : ∀ {cs : List C} {vs : List Value} (i : Nat) {c : C} {v : Value}, RepL m cs vs → Rep m c v → RepL m (cs.set i c) (vs.set i v)
  | [], vs, i, c, v, h, _ => by simp only [RepL] at h; subst h; simp [RepL]
  | d :: cs, vs, 0, c, v, h, hc => by
    simp only [RepL] at h
    obtain ⟨u, r, rfl, _, h2⟩ := h
    simp only [List.set_cons_zero, RepL]
    exact ⟨v, r, rfl, hc, h2⟩
  | d :: cs, vs, i + 1, c, v, h, hc => by
    simp only [RepL] at h
    obtain ⟨u, r, rfl, h1, h2⟩ := h
    simp only [List.set_cons_succ, RepL]
    exact ⟨u, r.set i v, rfl, h1, RepL.set i h2 hc⟩
theorem RepL.erase {m : Mem} : ∀ {cs : List C} {vs : List Value} (i : Nat), RepL m cs vs → RepL m (cs.eraseIdx i) (vs.eraseIdx i)
  | [], vs, i, h => by simp only [RepL] at h; subst h; simp [RepL]
  | d :: cs, vs, 0, h => by
    simp only [RepL] at h
    obtain ⟨u, r, rfl, _, h2⟩ := h
    simpa using h2
  | d :: cs, vs, i + 1, h => by
    simp only [RepL] at h
    obtain ⟨u, r, rfl, h1, h2⟩ := h
    simp only [List.eraseIdx_cons_succ, RepL]
    exact ⟨u, r.eraseIdx i, rfl, h1, RepL.erase i h2⟩

theorem map_eraseIdx' {α β : Type} (f : α → β) : ∀ (l : List α) (i : Nat), (l.eraseIdx i).map f = (l.map f).eraseIdx i
  | [], _ => by simp
  | a :: l, 0 => by simp
  | a :: l, i + 1 => by simp [map_eraseIdx' f l i]

theorem findX_at (kind : TypeDesc) (k : Value) : ∀ (es : List (Value × C)) (i j : Nat), findX kind k es i = some (some j) → i ≤ j ∧ ∃ p, es[j - i]? = some p ∧ Instr.sameNow kind k p.1 = some true
  | [], i, j, h => by simp [findX] at h
  | e :: es, i, j, h => by
    simp only [findX] at h
    split at h
    · rename_i hsn
      simp only [Option.some.injEq] at h
      subst h
      exact ⟨Nat.le_refl _, e, by simp, hsn⟩
    · obtain ⟨h1, p, h2, h3⟩ := findX_at kind k es (i + 1) j h
      refine ⟨by omega, p, ?_, h3⟩
      obtain ⟨q, rfl⟩ : ∃ q, j = i + 1 + q := ⟨j - (i + 1), by omega⟩
      have e1 : i + 1 + q - i = q + 1 := by omega
      have e2 : i + 1 + q - (i + 1) = q := by omega
      rw [e1]
      rw [e2] at h2
      simpa using h2
    · cases h

theorem sameNow_stays {kind : TypeDesc} {a b : Value} (h : Instr.sameNow kind a b = some true) : b = a ∧ (Instr.keyThatStays b a).run P w = .ok a w := by
  unfold Instr.sameNow at h
  split at h
  · rename_i kk a k' b
    split at h
    · rename_i hk
      simp only [Option.some.injEq, beq_iff_eq] at h
      subst hk; subst h
      exact ⟨rfl, by simp [Instr.keyThatStays, Instr.sameBits]⟩
    · cases h
  · rename_i a b
    simp only [Option.some.injEq] at h
    have : a = b := (MapKept.bytes_beq a b).1 h
    subst this
    exact ⟨rfl, by simp [Instr.keyThatStays, Instr.sameBits, h]⟩
  · rename_i a b
    simp only [Option.some.injEq, beq_iff_eq] at h
    subst h
    exact ⟨rfl, by simp [Instr.keyThatStays, Instr.sameBits]⟩
  · cases h

theorem mapUpdate_sound (hs : Sim M0 k ow done w0 w N s tmps) {t et r : Nat} {kind : TypeDesc} {kv vm vk vx : Value} {c : C} {es es' : List (Value × C)} (hty : mapTy (TT.of P) t = some (kind, et)) (hm : RepX k ow (.mp r) vm) (hk : vk = kv) (hc : Rep k.m c vx)
    (hr : s.objs[r]? = some (.map es)) (hput : putX kind kv c es = some es') : ∃ w', (Instr.mapUpdate t vm vk vx).run P w = .ok () w' ∧ Sim M0 k ow done w0 w' N { s with objs := s.objs.set r (Ob.map es') } tmps := by
  subst hk
  obtain ⟨d, kt, d', hT, hu, hT', hu', hkk⟩ := mapTy_inv hty
  have r1 := (TT.of_ok hT).run_und w
  have r2 := (TT.of_ok hT').run_und w
  rw [hu] at r1
  rw [hu'] at r2
  simp only [RepX] at hm
  obtain ⟨b, hb, rfl⟩ := hm
  obtain ⟨b', g1, _, g3, _, ms, cl, hh, hk1, hk2⟩ := hs.obj r _ hr
  obtain rfl : b = b' := Option.some.inj (hb.symm.trans g1)
  have hrl : r < s.objs.length := hs.dom r b hb
  unfold putX at hput
  split at hput
  · rename_i i hfind
    simp only [Option.some.injEq] at hput
    subst hput
    obtain ⟨f1, _⟩ := findNow_of kind vk ms.toList es 0 _ hk1 hfind
    obtain ⟨_, e', he, hnow⟩ := f1 i rfl
    obtain ⟨_, p, hp, hsn⟩ := findX_at kind vk es 0 i hfind
    simp only [Nat.sub_zero] at he hp
    have hke : e'.key = p.1 := by
      have := congrArg (fun l => l[i]?) hk1
      simp only [List.getElem?_map, he, hp, Option.map_some, Option.some.injEq] at this
      exact this
    obtain ⟨hpk, hst⟩ := sameNow_stays (P := P) (w := w) hsn
    have he2 : ms[i]? = some e' := by simpa using he
    refine ⟨_, ?_, hs.setMap (ms' := ms.modify i fun e => { e with key := vk, val := vx }) (cl' := cl) hb hh hrl ?_ ?_⟩
    · simp only [Instr.mapUpdate, Sem.run_bind, r1, Result.andThen_ok, MapKept.run_getObj_map hh, run_checkKey r2 hkk]
      rw [run_findKey r2 hnow]
      simp only [Result.andThen_ok, he2, Option.map_some, Option.getD_some, Sem.run_bind]
      rw [hke, hst]
      simp only [Result.andThen_ok]
      exact MapKept.run_setObj_map _ hh
    · rw [Array.toList_modify]
      apply List.ext_getElem?
      intro j
      have := congrArg (fun l => l[j]?) hk1
      simp only [List.getElem?_map] at this
      simp only [List.getElem?_map, List.getElem?_modify, List.getElem?_set]
      by_cases hij : i = j
      · subst hij
        have hlt : i < es.length := (List.getElem?_eq_some_iff.1 hp).1
        simp [he2, hlt]
      · simp [hij]
        simpa using this
    · rw [Array.toList_modify]
      have e1 : (es.set i (vk, c)).map (·.2) = (es.map (·.2)).set i c := by rw [List.map_set]
      have e2 : (ms.toList.modify i fun e => { e with key := vk, val := vx }).map (·.val) = (ms.toList.map (·.val)).set i vx := by
        apply List.ext_getElem?
        intro j
        simp only [List.getElem?_map, List.getElem?_modify, List.getElem?_set]
        by_cases hij : i = j
        · subst hij
          have hlt : i < ms.toList.length := (List.getElem?_eq_some_iff.1 he).1
          have hlt' : i < ms.size := by simpa using hlt
          simp [he2, hlt']
        · simp [hij]
      rw [e1, e2]
      exact hk2.set i hc
  · rename_i hfind
    simp only [Option.some.injEq] at hput
    subst hput
    obtain ⟨_, f2⟩ := findNow_of kind vk ms.toList es 0 _ hk1 hfind
    refine ⟨_, ?_, hs.setMap (ms' := ms.push { key := vk, val := vx, born := cl }) (cl' := cl + 1) hb hh hrl ?_ ?_⟩
    · simp only [Instr.mapUpdate, Sem.run_bind, r1, Result.andThen_ok, MapKept.run_getObj_map hh, run_checkKey r2 hkk]
      rw [run_findKey r2 (f2 rfl)]
      simp only [Result.andThen_ok]
      exact MapKept.run_setObj_map _ hh
    · simp only [Array.toList_push, List.map_append, hk1]
      rfl
    · simp only [Array.toList_push, List.map_append]
      exact hk2.append (by simp [RepL, hc])
  · cases hput

theorem delete_sound (hs : Sim M0 k ow done w0 w N s tmps) {t t2 et r ty : Nat} {kind : TypeDesc} {kv vm vk : Value} {es es' : List (Value × C)} (hty : mapTy (TT.of P) t = some (kind, et)) (hm : RepX k ow (.mp r) vm) (hk : vk = kv)
    (hr : s.objs[r]? = some (.map es)) (hput : delX kind kv es = some es') : ∃ w', (Builtin.delete_ #[t, t2] ty #[vm, vk]).run P w = .ok (.tuple #[]) w' ∧ Sim M0 k ow done w0 w' N { s with objs := s.objs.set r (Ob.map es') } tmps := by
  subst hk
  obtain ⟨d, kt, d', hT, hu, hT', hu', hkk⟩ := mapTy_inv hty
  have r1 := (TT.of_ok hT).run_und w
  have r2 := (TT.of_ok hT').run_und w
  rw [hu] at r1
  rw [hu'] at r2
  simp only [RepX] at hm
  obtain ⟨b, hb, rfl⟩ := hm
  obtain ⟨b', g1, _, g3, _, ms, cl, hh, hk1, hk2⟩ := hs.obj r _ hr
  obtain rfl : b = b' := Option.some.inj (hb.symm.trans g1)
  have hrl : r < s.objs.length := hs.dom r b hb
  unfold delX at hput
  split at hput
  · rename_i i hfind
    simp only [Option.some.injEq] at hput
    subst hput
    obtain ⟨f1, _⟩ := findNow_of kind vk ms.toList es 0 _ hk1 hfind
    obtain ⟨_, e', he, hnow⟩ := f1 i rfl
    simp only [Nat.sub_zero] at he
    have hlt : i < ms.size := by simpa using (List.getElem?_eq_some_iff.1 he).1
    refine ⟨_, ?_, hs.setMap (ms' := ms.eraseIdxIfInBounds i) (cl' := cl) hb hh hrl ?_ ?_⟩
    · simp only [Builtin.delete_, List.getElem?_toArray, List.getElem?_cons_zero, List.getElem?_cons_succ, Sem.run_bind, r1, Result.andThen_ok, MapKept.run_getObj_map hh, run_checkKey r2 hkk]
      rw [run_findKey r2 hnow]
      simp only [Result.andThen_ok]
      rw [Sem.run_bind, MapKept.run_setObj_map _ hh]
      rfl
    · simp only [Array.eraseIdxIfInBounds, hlt, dif_pos, Array.toList_eraseIdx, map_eraseIdx', hk1]
    · simp only [Array.eraseIdxIfInBounds, hlt, dif_pos, Array.toList_eraseIdx, map_eraseIdx']
      exact hk2.erase i
  · rename_i hfind
    simp only [Option.some.injEq] at hput
    subst hput
    obtain ⟨_, f2⟩ := findNow_of kind vk ms.toList es 0 _ hk1 hfind
    refine ⟨_, ?_, hs.setMap (ms' := ms) (cl' := cl) hb hh hrl hk1 hk2⟩
    · simp only [Builtin.delete_, List.getElem?_toArray, List.getElem?_cons_zero, List.getElem?_cons_succ, Sem.run_bind, r1, Result.andThen_ok, MapKept.run_getObj_map hh, run_checkKey r2 hkk]
      rw [run_findKey r2 (f2 rfl)]
      simp only [Result.andThen_ok]
      rw [Sem.run_bind, MapKept.run_setObj_map _ hh]
      rfl
  · cases hput

/-- A call that takes or gives objects. -/
theorem callS_sound (hs : Sim M0 k ow done w0 w N s tmps) {E : En} (horc : EnSound P M0.G E) {ix : Nat} (hd : ¬ done ix) {d : Option Nat} (hdst : ∀ j, d = some j → j < N) {f : Nat} {us : List X} {vs : List Value} {e : Option X} {s' : S}
    (hus : RepXs k ow us vs) (h : callS P E s ix d f us = some (e, s')) : callable P f = true ∧ Calls P f vs.toArray w fun en w' => ∃ k' ow', k.le k' ∧
      ((e = none ∧ ∃ v, en = .returned v ∧ Sim M0 k' ow' (fun j => done j ∨ j = ix) w0 w' N s' (Act.put ⟨tmps, []⟩ d v).tmps) ∨
       (∃ x v, e = some x ∧ en = .panicked [{ v := v, recovered := false }] ∧ RepX k' ow' x v ∧ Sim M0 k' ow' (fun j => done j ∨ j = ix) w0 w' N s' tmps)) := by
  unfold callS at h
  split at h
  rotate_left
  · cases h
  rename_i hc
  refine ⟨hc, ?_⟩
  simp only at h
  split at h
  rotate_left
  · cases h
  rename_i obs hobs
  split at h
  rotate_left
  · cases h
  rename_i an hor
  have hnd1 := reach_nodup s.objs 999 (X.refsL us) [] List.nodup_nil
  have hnd2 : (if E.tk f = true then nub (X.toksL us) [] else []).Nodup := by
    split
    · exact nub_nodup _ _ List.nodup_nil
    · exact List.nodup_nil
  refine (call_core hs hnd1 hnd2 hobs (horc.orc _ _ _ _ hor) hc (RepXs.tr ren_in _ _ hus) hd).mono fun en w' ⟨us', kn, own, h1, h2, h3, h4, h5⟩ => ?_
  refine ⟨kn, own, h2, ?_⟩
  unfold backS at h
  simp only at h
  rw [if_pos h3] at h
  obtain ⟨pan, rs, obs'⟩ := an
  cases pan with
  | true =>
    simp only [EndsAs] at h1
    obtain ⟨u, rfl, rfl⟩ := h1
    match rs, h, h5 with
    | [x], h, h5 =>
      simp only [Option.some.injEq, Prod.mk.injEq] at h
      obtain ⟨rfl, rfl⟩ := h
      simp only [X.trs, RepXs] at h5
      obtain ⟨v, r, hv, hx, rfl⟩ := h5
      cases hv
      exact .inr ⟨_, _, rfl, rfl, hx, h4⟩
    | [], h, _ => cases h
    | _ :: _ :: _, h, _ => cases h
  | false =>
    simp only [EndsAs] at h1
    subst h1
    simp only [Option.some.injEq, Prod.mk.injEq] at h
    obtain ⟨rfl, rfl⟩ := h
    exact .inl ⟨rfl, _, rfl, h4.put d hdst (oneX_rep h5)⟩

theorem evs_rep' (hs : Sim M0 k ow done w0 w N s tmps) (l : List Operand) {caps : List X} {cvs : List Value} (hc : RepXs k ow caps cvs) : RepXs k ow (l.map s.ev ++ caps) ((l.map fun x => (⟨tmps, []⟩ : Act).eval x) ++ cvs) := (evs_rep hs l).append hc

/-- An operation that turns no object. -/
theorem stepV_sound (hs : Sim M0 k ow done w0 w N s tmps) {E : En} (horc : EnSound P M0.G E) {ix : Nat} (hd : ¬ done ix) {o : Oper} {e : Option X} {s' : S} (hdst : dstOk N o = true)
    (h : stepV P (TT.of P) E s ix o = some (e, s')) {K : Act → World → Prop} {Q : Exit → Act → World → Prop}
    (hK : e = none → ∀ tmps' w' k' ow', k.le k' → Sim M0 k' ow' (fun j => done j ∨ j = ix) w0 w' N s' tmps' → K ⟨tmps', []⟩ w') : o.wp P ⟨tmps, []⟩ w K Q := by
  have hdst' : ∀ j, o.dst = some j → j < N := fun j hj => by
    unfold dstOk at hdst
    rw [hj] at hdst
    simpa using hdst
  have hput : ∀ u, (⟨tmps, []⟩ : Act).put o.dst u = ⟨((⟨tmps, []⟩ : Act).put o.dst u).tmps, []⟩ := fun u => by
    cases o.dst <;> rfl
  unfold stepV at h
  split at h
  · rename_i x t hv
    split at h
    · simp only [Option.some.injEq, Prod.mk.injEq] at h
      obtain ⟨rfl, rfl⟩ := h
      refine val_sound hs horc.orc hd hv fun u w' k' ow' g1 g2 g3 => ?_
      rw [hput]
      exact hK rfl _ _ k' ow' g1 (g2.put o.dst hdst' g3)
    · cases h
  · cases h

/-- One operation. -/
theorem step_sound (hs : Sim M0 k ow done w0 w N s tmps) {E : En} (horc : EnSound P M0.G E) {dr : Bool} {ix : Nat} (hd : ¬ done ix) {o : Oper} {e : Option X} {s' : S} (hdst : dstOk N o = true)
    (h : step P (TT.of P) E dr s ix o = some (e, s')) {K : Act → World → Prop} {Q : Exit → Act → World → Prop}
    (hK : e = none → ∀ tmps' w' k' ow', k.le k' → Sim M0 k' ow' (fun j => done j ∨ j = ix) w0 w' N s' tmps' → K ⟨tmps', []⟩ w')
    (hP : ∀ x, e = some x → ∀ v w' k' ow', k.le k' → Sim M0 k' ow' (fun j => done j ∨ j = ix) w0 w' N s' tmps → RepX k' ow' x v → Q (.panic [{ v := v, recovered := false }]) ⟨tmps, []⟩ w') : o.wp P ⟨tmps, []⟩ w K Q := by
  have hdst' : ∀ j, o.dst = some j → j < N := fun j hj => by
    unfold dstOk at hdst
    rw [hj] at hdst
    simpa using hdst
  have hput : ∀ u, (⟨tmps, []⟩ : Act).put o.dst u = ⟨((⟨tmps, []⟩ : Act).put o.dst u).tmps, []⟩ := fun u => by
    cases o.dst <;> rfl
  have hs1 := hs.more (done' := fun j => done j ∨ j = ix) (fun _ h => .inl h)
  unfold step at h
  split at h
  · exact stepV_sound hs horc hd hdst h hK
  split at h
  · -- alloc
    rename_i t ho
    split at h
    · rename_i d hT
      simp only [Option.some.injEq, Prod.mk.injEq] at h
      obtain ⟨rfl, rfl⟩ := h
      have ok := TT.of_ok hT
      obtain ⟨z, hz, hz2⟩ := ok.run_zero w
      obtain ⟨k', g1, g2, g3⟩ := hs1.newVar (xs := zeroX d) (vs := d.zero) t (zeroX_rep d.zero) ok.one
      obtain ⟨ow', g4⟩ := g3.lay (r := s.objs.length) (off := 0) (xs := zeroX d) (ys := []) (by simp)
      refine wp_value (u := .pointer (some ⟨w.heap.size, 0, none⟩)) (w' := w.alloc (.cells d.zero.toArray t)) ?_ ?_
      · simp [execOp, ho, Instr.alloc, hz, newVar, newRow, ← hz2]
      · rw [hput]
        exact hK rfl _ _ k' ow' g1 (g4.put o.dst hdst' (by simp only [RepX]; exact ⟨_, g2, rfl⟩))
    · cases h
  · -- box
    rename_i t x ho
    split at h
    · rename_i d xs hT hx
      split at h
      · simp only [Option.some.injEq, Prod.mk.injEq] at h
        obtain ⟨rfl, rfl⟩ := h
        obtain ⟨hl, h1⟩ := repX_cells hx (hs.ev x)
        obtain ⟨k', g1, g2, g3⟩ := hs1.newVar t hl h1
        obtain ⟨ow', g4⟩ := g3.lay (r := s.objs.length) (off := 0) (xs := xs) (ys := []) (by simp)
        refine wp_value (u := .pointer (some ⟨w.heap.size, 0, none⟩)) (w' := w.alloc (.cells ((⟨tmps, []⟩ : Act).eval x).cells.toList.toArray t)) ?_ ?_
        · simp [execOp, ho, Instr.box, newVar, newRow]
        · rw [hput]
          exact hK rfl _ _ k' ow' g1 (g4.put o.dst hdst' (by simp only [RepX]; exact ⟨_, g2, rfl⟩))
      · cases h
    · cases h
  · -- store
    rename_i t a x ho
    split at h
    · rename_i d r off xs hT ha hx
      simp only [Option.map_eq_some_iff, Prod.mk.injEq] at h
      obtain ⟨s2, h, rfl, rfl⟩ := h
      unfold storeS at h
      split at h
      · rename_i ty ys hr
        split at h
        · rename_i hc
          simp only [Option.some.injEq] at h
          subst h
          obtain ⟨hl, h1⟩ := repX_cells hx (hs.ev x)
          have hav := hs.ev a
          rw [ha] at hav
          simp only [RepX] at hav
          obtain ⟨b, hb, hav⟩ := hav
          obtain ⟨b', g1, g2, g3, g4, vs, hh, hone, hvs⟩ := hs.obj r _ hr
          obtain rfl : b = b' := Option.some.inj (hb.symm.trans g1)
          have hrl : r < s.objs.length := hs.dom r b hb
          have ok := TT.of_ok hT
          have hlen := hl.length
          have hvl := hvs.length
          have hfit : off + 0 + ((⟨tmps, []⟩ : Act).eval x).cells.toList.length ≤ vs.toArray.size := by
            simp only [List.size_toArray]
            omega
          have hrun := run_storeCells_at P b off ty ((⟨tmps, []⟩ : Act).eval x).cells.toList 0 vs.toArray w hh hfit h1
          have hsz : ((⟨tmps, []⟩ : Act).eval x).cells.size = d.size := by
            have : ((⟨tmps, []⟩ : Act).eval x).cells.toList.length = d.size := by omega
            simpa using this
          have hset := hs1.setVar (ys := ys.take off ++ xs ++ ys.drop (off + xs.length)) (vs := vs.take off ++ ((⟨tmps, []⟩ : Act).eval x).cells.toList ++ vs.drop (off + xs.length)) hb hh hrl
            (((hvs.takeN off).append hl).append (hvs.dropN _))
            (fun u hu => by
              simp only [List.mem_append] at hu
              rcases hu with (hu | hu) | hu
              · exact hone u (List.mem_of_mem_take hu)
              · exact h1 u hu
              · exact hone u (List.mem_of_mem_drop hu))
          have hrun2 : (execOp (⟨tmps, []⟩ : Act).eval o).run P w = .ok .skip (w.setRow b (vs.take off ++ ((⟨tmps, []⟩ : Act).eval x).cells.toList ++ vs.drop (off + xs.length)).toArray) := by
            simp only [Nat.add_zero, hlen] at hrun
            simp [execOp, ho, Instr.storeAt, hav, Instr.sureAddr, storeVar, ok.run_size, hsz, hrun]
          unfold Oper.wp
          rw [hrun2]
          simp only [Oper.upon]
          rw [hput]
          obtain ⟨ow', g4⟩ := hset.lay (r := r) (off := off) (xs := xs) (ys := (ys.drop off).take xs.length) (by simpa using hrl)
          exact hK rfl _ _ k ow' (Know.le_refl k) (g4.put o.dst hdst' (by simp [RepX, Rep]))
        · cases h
      · cases h
    · cases h
  · -- makeMap
    rename_i t ho
    simp only [Option.some.injEq, Prod.mk.injEq] at h
    obtain ⟨rfl, rfl⟩ := h
    obtain ⟨k', g1, g2, g3⟩ := hs1.newOb (ob := Ob.map []) (.map #[] 0) (fun k' w' _ hh => ⟨#[], 0, hh, rfl, by simp [RepL]⟩)
    refine wp_value (u := .map (some w.heap.size)) (w' := w.alloc (.map #[] 0)) ?_ ?_
    · simp [execOp, ho, Instr.makeMap]
    · rw [hput]
      exact hK rfl _ _ k' ow g1 (g3.put o.dst hdst' (by simp only [RepX]; exact ⟨_, g2, rfl⟩))
  · -- mapUpdate
    rename_i t m kx x ho
    split at h
    · rename_i kind et r kv c hty hm hlit hrd
      split at h
      · rename_i es hr
        split at h
        · rename_i es' hp
          simp only [Option.some.injEq, Prod.mk.injEq] at h
          obtain ⟨rfl, rfl⟩ := h
          have hmv := hs.ev m
          rw [hm] at hmv
          obtain ⟨w', g1, g2⟩ := mapUpdate_sound (P := P) hs1 hty hmv (litOf_rep hlit (hs.ev kx)) (repX_rd _ _ _ hrd (hs.ev x)) hr hp
          have hrun2 : (execOp (⟨tmps, []⟩ : Act).eval o).run P w = .ok .skip w' := by simp [execOp, ho, g1]
          unfold Oper.wp
          rw [hrun2]
          simp only [Oper.upon]
          rw [hput]
          exact hK rfl _ _ k ow (Know.le_refl k) (g2.put o.dst hdst' (by simp [RepX, Rep]))
        · cases h
      · cases h
    · cases h
  · -- insert
    rename_i t m kx x ho
    split at h
    · rename_i kind et r kv c hty hm hlit hrd
      split at h
      · rename_i es hr
        split at h
        · rename_i es' hp
          simp only [Option.some.injEq, Prod.mk.injEq] at h
          obtain ⟨rfl, rfl⟩ := h
          have hmv := hs.ev m
          rw [hm] at hmv
          obtain ⟨w', g1, g2⟩ := mapUpdate_sound (P := P) hs1 hty hmv (litOf_rep hlit (hs.ev kx)) (repX_rd _ _ _ hrd (hs.ev x)) hr hp
          have hrun2 : (execOp (⟨tmps, []⟩ : Act).eval o).run P w = .ok .skip w' := by simp [execOp, ho, g1]
          unfold Oper.wp
          rw [hrun2]
          simp only [Oper.upon]
          rw [hput]
          exact hK rfl _ _ k ow (Know.le_refl k) (g2.put o.dst hdst' (by simp [RepX, Rep]))
        · cases h
      · cases h
    · cases h
  · -- delete
    rename_i args tys ho
    split at h
    · rename_i m kx t t2 hargs htys
      split at h
      · rename_i kind et r kv hty hm hlit
        split at h
        · rename_i es hr
          split at h
          · rename_i es' hp
            simp only [Option.some.injEq, Prod.mk.injEq] at h
            obtain ⟨rfl, rfl⟩ := h
            have hmv := hs.ev m
            rw [hm] at hmv
            obtain ⟨w', g1, g2⟩ := delete_sound (P := P) (t2 := t2) (ty := o.type) hs1 hty hmv (litOf_rep hlit (hs.ev kx)) hr hp
            have ha : args = #[m, kx] := by rw [← Array.toArray_toList (xs := args), hargs]
            have ht : tys = #[t, t2] := by rw [← Array.toArray_toList (xs := tys), htys]
            subst ha; subst ht
            refine wp_value (u := .tuple #[]) (w' := w') (by simp [execOp, ho, resolve, invoke, builtin, g1]) ?_
            rw [hput]
            exact hK rfl _ _ k ow (Know.le_refl k) (g2.put o.dst hdst' (by simp [RepX, RepXs]))
          · cases h
        · cases h
      · cases h
    · cases h
  · -- panic
    rename_i x ho
    split at h
    · rename_i t c hc
      simp only [Option.some.injEq, Prod.mk.injEq] at h
      obtain ⟨rfl, rfl⟩ := h
      have hrep := repX_rd _ _ _ hc (hs.ev x)
      have hrep' := hrep
      simp only [Rep] at hrep
      obtain ⟨u, hu, _⟩ := hrep
      have hrun : (execOp (⟨tmps, []⟩ : Act).eval o).run P w = .halt (.panic ((⟨tmps, []⟩ : Act).eval x)) w := by
        rw [hu]
        simp [execOp, ho, hu, Instr.panic, goPanic]
      unfold Oper.wp
      rw [hrun]
      simp only [Oper.upon]
      exact hP _ rfl _ w k ow (Know.le_refl k) hs1 (by simpa only [RepX] using hrep')
    · cases h
  · -- a call
    rename_i f args tys ho
    split at h
    · rename_i g us htg
      split at h
      · obtain ⟨cvs, hfv, hus⟩ : ∃ cvs : List Value, (⟨tmps, []⟩ : Act).eval f = .func (.func g) #[] cvs.toArray ∧ RepXs k ow us ((args.toList.map fun x => (⟨tmps, []⟩ : Act).eval x) ++ cvs) := by
          have hfx := hs.ev f
          unfold target at htg
          simp only at htg
          split at htg
          · rename_i g' caps hf
            simp only [Option.some.injEq, Prod.mk.injEq] at htg
            obtain ⟨rfl, rfl⟩ := htg
            rw [hf] at hfx
            simp only [RepX, Rep] at hfx
            obtain ⟨vs, h1, h2⟩ := hfx
            exact ⟨vs, h1, evs_rep' hs _ (RepXs.of h2)⟩
          · rename_i g' caps hf
            simp only [Option.some.injEq, Prod.mk.injEq] at htg
            obtain ⟨rfl, rfl⟩ := htg
            rw [hf] at hfx
            simp only [RepX] at hfx
            obtain ⟨vs, h1, h2⟩ := hfx
            exact ⟨vs, h1, evs_rep' hs _ h2⟩
          · cases htg
        obtain ⟨hc, hcall⟩ := callS_sound hs horc hd hdst' hus h
        have hrun : (execOp (⟨tmps, []⟩ : Act).eval o).run P w = .ok (.enter g ((args.toList.map fun x => (⟨tmps, []⟩ : Act).eval x) ++ cvs).toArray) w := by
          unfold callable at hc
          split at hc
          · rename_i fn hfn
            simp only [Bool.and_eq_true, Bool.not_eq_true', Option.isSome_iff_exists] at hc
            obtain ⟨⟨b, hb⟩, hn⟩ := hc
            have hn' : ¬ fn.name = "runtime.NumGoroutine" := by simpa using hn
            have hargs : ((args.toList.map fun x => (⟨tmps, []⟩ : Act).eval x) ++ cvs).toArray = Array.map (fun x => (⟨tmps, []⟩ : Act).eval x) args ++ cvs.toArray := by
              apply Array.ext'
              simp
            rw [hargs]
            simp [execOp, ho, resolve, hfv, Deferred.ofValue, invoke, callFunc, hfn, hn', hb]
          · cases hc
        unfold Oper.wp
        rw [hrun]
        simp only [Oper.upon]
        refine hcall.mono fun en w' ⟨k', ow', g1, hcase⟩ => ?_
        rcases hcase with ⟨he, v, rfl, g2⟩ | ⟨x, v, he, rfl, g2, g3⟩
        · show K ((⟨tmps, []⟩ : Act).put o.dst v) w'
          rw [hput]
          exact hK he _ _ k' ow' g1 g2
        · exact hP x he v w' k' ow' g1 g3 g2
      · exact stepV_sound hs horc hd hdst h hK
    · cases h
  · exact stepV_sound hs horc hd hdst h hK

theorem guard_sound (hs : Sim M0 k ow done w0 w N s tmps) {ops : Array Oper} {o : Oper} {b : Bool} (h : guardOk ops s o = some b) : Region.wanted o (yielded ops tmps) = b := by
  unfold guardOk at h
  unfold Region.wanted
  split at h
  · rename_i hg
    simp only [Option.some.injEq] at h
    simp [hg, h]
  · rename_i j want hg
    simp only [hg]
    split at h
    · rename_i d hd
      have hx := hs.fr d
      unfold yielded
      rw [hd]
      simp only [Option.bind_some]
      split at h
      · rename_i b' hb
        rw [hb] at hx
        simp only [RepX, Rep] at hx
        simp only [Option.some.injEq] at h
        have : tmps[d]? = some (.bool b') := by
          rw [Array.getD_eq_getD_getElem?] at hx
          cases hc : tmps[d]? with
          | none => rw [hc] at hx; simp [undef] at hx
          | some u => rw [hc] at hx; simp at hx; rw [hx.1]
        rw [this]
        simp only []
        rw [← h]
        cases b' <;> cases want <;> rfl
      · rename_i hb
        rw [hb] at hx
        simp only [RepX, Rep] at hx
        simp only [Option.some.injEq] at h
        rw [Array.getD_eq_getD_getElem?] at hx
        cases hc : tmps[d]? with
        | none => simp [← h]
        | some u =>
          rw [hc] at hx
          simp at hx
          subst hx
          simp [undef, ← h]
      · cases h
    · rename_i hd
      simp only [Option.some.injEq] at h
      unfold yielded
      rw [hd]
      simp [← h]

theorem stepG_sound (hs : Sim M0 k ow done w0 w N s tmps) {E : En} (horc : EnSound P M0.G E) {dr : Bool} {ops : Array Oper} {ix : Nat} (hd : ¬ done ix) {o : Oper} (hi : ops[ix]? = some o) {e : Option X} {s' : S} (hdst : dstOk N o = true)
    (h : stepG P (TT.of P) E dr ops s ix o = some (e, s')) {K : Act → World → Prop} {Q : Exit → Act → World → Prop}
    (hK : e = none → ∀ tmps' w' k' ow', k.le k' → Sim M0 k' ow' (fun j => done j ∨ j = ix) w0 w' N s' tmps' → K ⟨tmps', []⟩ w')
    (hP : ∀ x, e = some x → ∀ v w' k' ow', k.le k' → Sim M0 k' ow' (fun j => done j ∨ j = ix) w0 w' N s' tmps → RepX k' ow' x v → Q (.panic [{ v := v, recovered := false }]) ⟨tmps, []⟩ w') : wpOp P ops Q ix K ⟨tmps, []⟩ w := by
  unfold stepG at h
  unfold wpOp
  simp only [hi]
  split at h
  · rename_i hg
    rw [guard_sound hs hg, if_pos rfl]
    exact .inl (step_sound hs horc hd hdst h hK hP)
  · rename_i hg
    rw [guard_sound hs hg, if_neg (by simp)]
    simp only [Option.some.injEq, Prod.mk.injEq] at h
    obtain ⟨rfl, rfl⟩ := h
    have hdst' : ∀ j, o.dst = some j → j < N := fun j hj => by
      unfold dstOk at hdst
      rw [hj] at hdst
      simpa using hdst
    have := (hs.more (done' := fun j => done j ∨ j = ix) (fun _ h => .inl h)).put o.dst hdst' (x := .of .undef) (v := undef) (by simp [RepX, Rep])
    have hput : (⟨tmps, []⟩ : Act).put o.dst undef = ⟨((⟨tmps, []⟩ : Act).put o.dst undef).tmps, []⟩ := by cases o.dst <;> rfl
    rw [hput]
    exact hK rfl _ _ k ow (Know.le_refl k) this
  · cases h

/-- The operations of a region, in the order of the text. -/
theorem evOps_sound {E : En} (horc : EnSound P M0.G E) {dr : Bool} {ops : Array Oper} {Q : Exit → Act → World → Prop} {e : Option X} {s' : S} : ∀ (l : List Oper) (n : Nat) (s : S) (w : World) (tmps : Array Value) (k : Know) (ow : Own) (done : Nat → Prop),
    (∀ j, l[j]? = ops[n + j]?) → (∀ o ∈ l, dstOk N o = true) → (∀ j, done j → j < n) → Sim M0 k ow done w0 w N s tmps → evOps P (TT.of P) E dr ops n l s = some (e, s') →
    (e = none → ∀ tmps' w' k' ow' done', k.le k' → Sim M0 k' ow' done' w0 w' N s' tmps' → Q .normal ⟨tmps', []⟩ w') →
    (∀ x, e = some x → ∀ v tmps' w' k' ow' done', k.le k' → Sim M0 k' ow' done' w0 w' N s' tmps' → RepX k' ow' x v → Q (.panic [{ v := v, recovered := false }]) ⟨tmps', []⟩ w') → wpOps P ops Q (List.range' n l.length) ⟨tmps, []⟩ w
  | [], n, s, w, tmps, k, ow, done, _, _, _, hs, h, hQ, _ => by
    simp only [evOps, Option.some.injEq, Prod.mk.injEq] at h
    obtain ⟨rfl, rfl⟩ := h
    exact hQ rfl tmps w k ow done (Know.le_refl k) hs
  | o :: l, n, s, w, tmps, k, ow, done, hl, hdst, hdone, hs, h, hQ, hP => by
    have h0 : ops[n]? = some o := by simpa using (hl 0).symm
    simp only [evOps] at h
    simp only [List.length_cons, List.range'_succ]
    rw [wpOps_cons]
    split at h
    · rename_i s1 h1
      refine stepG_sound hs horc (fun hd => by have := hdone n hd; omega) h0 (hdst o (by simp)) h1 (fun _ tmps' w' k' ow' g1 g2 => ?_) (fun x hx => by cases hx)
      exact evOps_sound horc l (n + 1) s1 w' tmps' k' ow' _ (fun j => by have := hl (j + 1); simpa [Nat.add_assoc, Nat.add_comm 1 j] using this) (fun o ho => hdst o (by simp [ho]))
        (fun j hj => by rcases hj with hj | hj; have := hdone j hj; omega; omega) g2 h
        (fun he tmps' w' k'' ow' done' g3 g4 => hQ he tmps' w' k'' ow' done' (Know.le_trans g1 g3) g4)
        (fun x he v tmps' w' k'' ow' done' g3 g4 => hP x he v tmps' w' k'' ow' done' (Know.le_trans g1 g3) g4)
    · rename_i x s1 h1
      simp only [Option.some.injEq, Prod.mk.injEq] at h
      obtain ⟨rfl, rfl⟩ := h
      exact stepG_sound hs horc (fun hd => by have := hdone n hd; omega) h0 (hdst o (by simp)) h1 (fun he => by cases he) (fun x hx v w' k' ow' g1 g2 => hP x hx v tmps w' k' ow' _ g1 g2)
    · cases h
end
end Go.Pe

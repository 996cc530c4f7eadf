/-
  An abstract machine for Go code over plain data: what its states say of memory. Conditions: none.
-/
import Derived.Test.YtiepbejeiijpmaaDoorPe1
import Derived.Maps.AppendAt
namespace Go.Pe
open Go.RowKit

abbrev Mem := Nat → Nat → Option Value

mutual
def Rep (m : Mem) : C → Value → Prop
  | .any, _ => True
  | .undef, v => v = undef
  | .lit u, v => v = u ∧ u.oneCell' = true
  | .sl cs n, v => ∃ a cap vs, v = .slice a n cap ∧ n ≤ cap ∧ RepL m cs vs ∧ (vs ≠ [] → ∃ b o, a = some ⟨b, o, none⟩ ∧ ∀ i u, vs[i]? = some u → m b (o + i) = some u)
  | .ref cs, v => ∃ b o vs, v = .pointer (some ⟨b, o, none⟩) ∧ RepL m cs vs ∧ ∀ i u, vs[i]? = some u → m b (o + i) = some u
  | .fn f caps, v => ∃ vs : List Value, v = .func (.func f) #[] vs.toArray ∧ RepL m caps vs
  | .agg cs, v => ∃ vs : List Value, v = .agg vs.toArray ∧ (∀ u ∈ vs, u.oneCell' = true) ∧ RepL m cs vs
  | .tup cs, v => ∃ vs : List Value, v = .tuple vs.toArray ∧ RepL m cs vs
  | .ifc t c, v => ∃ u, v = .iface t u ∧ Rep m c u
def RepL (m : Mem) : List C → List Value → Prop
  | [], vs => vs = []
  | c :: cs, vs => ∃ v r, vs = v :: r ∧ Rep m c v ∧ RepL m cs r
end

def Mem.le (m m' : Mem) : Prop := ∀ b o v, m b o = some v → m' b o = some v
theorem Mem.le_refl (m : Mem) : m.le m := fun _ _ _ h => h
theorem Mem.le_trans {a b c : Mem} (h : a.le b) (h' : b.le c) : a.le c := fun _ _ _ x => h' _ _ _ (h _ _ _ x)

theorem Rep.mono {m m' : Mem} (h : m.le m') : ∀ (c : C) (v : Value), Rep m c v → Rep m' c v :=
  C.rec (motive_1 := fun c => ∀ v, Rep m c v → Rep m' c v) (motive_2 := fun cs => ∀ vs, RepL m cs vs → RepL m' cs vs)
    (fun _ _ => by simp [Rep]) (fun _ h => by simpa [Rep] using h) (fun _ _ h => by simpa [Rep] using h)
    (fun cs n ih v => by
      simp only [Rep]
      rintro ⟨a, cap, vs, rfl, hn, hl, hm⟩
      exact ⟨a, cap, vs, rfl, hn, ih _ hl, fun hne => by
        obtain ⟨b, o, ha, hc⟩ := hm hne
        exact ⟨b, o, ha, fun i u hu => h _ _ _ (hc i u hu)⟩⟩)
    (fun cs ih v => by
      simp only [Rep]
      rintro ⟨b, o, vs, rfl, hl, hm⟩
      exact ⟨b, o, vs, rfl, ih _ hl, fun i u hu => h _ _ _ (hm i u hu)⟩)
    (fun f cs ih v => by simp only [Rep]; rintro ⟨vs, rfl, hl⟩; exact ⟨vs, rfl, ih _ hl⟩)
    (fun cs ih v => by simp only [Rep]; rintro ⟨vs, rfl, h1, hl⟩; exact ⟨vs, rfl, h1, ih _ hl⟩)
    (fun cs ih v => by simp only [Rep]; rintro ⟨vs, rfl, hl⟩; exact ⟨vs, rfl, ih _ hl⟩)
    (fun t c ih v => by simp only [Rep]; rintro ⟨u, rfl, h⟩; exact ⟨u, rfl, ih _ h⟩)
    (fun vs h => by simpa [RepL] using h)
    (fun c cs ih1 ih2 vs => by simp only [RepL]; rintro ⟨v, r, rfl, h1, h2⟩; exact ⟨v, r, rfl, ih1 _ h1, ih2 _ h2⟩)

theorem RepL.mono {m m' : Mem} (h : m.le m') : ∀ (cs : List C) (vs : List Value), RepL m cs vs → RepL m' cs vs
  | [], vs, hh => by simpa [RepL] using hh
  | c :: cs, vs, hh => by
    simp only [RepL] at hh ⊢
    obtain ⟨v, r, rfl, h1, h2⟩ := hh
    exact ⟨v, r, rfl, Rep.mono h _ _ h1, RepL.mono h _ _ h2⟩

theorem RepL.length {m : Mem} : ∀ {cs : List C} {vs : List Value}, RepL m cs vs → vs.length = cs.length
  | [], vs, h => by simp only [RepL] at h; simp [h]
  | c :: cs, vs, h => by
    simp only [RepL] at h
    obtain ⟨v, r, rfl, _, h2⟩ := h
    simp [RepL.length h2]

theorem RepL.get {m : Mem} : ∀ {cs : List C} {vs : List Value}, RepL m cs vs → ∀ (i : Nat) (c : C), cs[i]? = some c → ∃ v, vs[i]? = some v ∧ Rep m c v
  | [], vs, h, i, c, hc => by simp at hc
  | d :: cs, vs, h, i, c, hc => by
    simp only [RepL] at h
    obtain ⟨v, r, rfl, h1, h2⟩ := h
    cases i with
    | zero => simp at hc; subst hc; exact ⟨v, by simp, h1⟩
    | succ i => simp at hc; simpa using RepL.get h2 i c hc

theorem RepL.drop {m : Mem} : ∀ (k : Nat) {cs : List C} {vs : List Value}, RepL m cs vs → RepL m (cs.drop k) (vs.drop k)
  | 0, cs, vs, h => by simpa using h
  | k + 1, [], vs, h => by simp only [RepL] at h; subst h; simp [RepL]
  | k + 1, c :: cs, vs, h => by
    simp only [RepL] at h
    obtain ⟨v, r, rfl, _, h2⟩ := h
    simpa using RepL.drop k h2

theorem RepL.take {m : Mem} : ∀ (k : Nat) {cs : List C} {vs : List Value}, RepL m cs vs → RepL m (cs.take k) (vs.take k)
  | 0, cs, vs, h => by simp [RepL]
  | k + 1, [], vs, h => by simp only [RepL] at h; subst h; simp [RepL]
  | k + 1, c :: cs, vs, h => by
    simp only [RepL] at h
    obtain ⟨v, r, rfl, h1, h2⟩ := h
    simp only [List.take_succ_cons, RepL]
    exact ⟨v, r.take k, rfl, h1, RepL.take k h2⟩

theorem RepL.append {m : Mem} : ∀ {cs ds : List C} {vs us : List Value}, RepL m cs vs → RepL m ds us → RepL m (cs ++ ds) (vs ++ us)
  | [], ds, vs, us, h, h' => by simp only [RepL] at h; subst h; simpa using h'
  | c :: cs, ds, vs, us, h, h' => by
    simp only [RepL] at h
    obtain ⟨v, r, rfl, h1, h2⟩ := h
    simp only [List.cons_append, RepL]
    exact ⟨v, r ++ us, rfl, h1, RepL.append h2 h'⟩

/-! ### Slots -/
abbrev Own := Tk → Option (Value × Nat × Nat × Nat)

structure Know where
  m : Mem
  μ : Nat → Option Nat

mutual
def RepX (k : Know) (ow : Own) : X → Value → Prop
  | .of c, v => Rep k.m c v
  | .nil, v => v = .slice none 0 0
  | .own t e z cs n, v => ow t = some (v, e, z, n) ∧ cs.length = n * z ∧ Rep k.m (.sl cs n) v
  | .ptr r off, v => ∃ b, k.μ r = some b ∧ v = .pointer (some ⟨b, off, none⟩)
  | .mp r, v => ∃ b, k.μ r = some b ∧ v = .map (some b)
  | .clo f caps, v => ∃ vs : List Value, v = .func (.func f) #[] vs.toArray ∧ RepXs k ow caps vs
  | .agg xs, v => ∃ vs : List Value, v = .agg vs.toArray ∧ (∀ u ∈ vs, u.oneCell' = true) ∧ RepXs k ow xs vs
  | .tup xs, v => ∃ vs : List Value, v = .tuple vs.toArray ∧ RepXs k ow xs vs
def RepXs (k : Know) (ow : Own) : List X → List Value → Prop
  | [], vs => vs = []
  | x :: xs, vs => ∃ v r, vs = v :: r ∧ RepX k ow x v ∧ RepXs k ow xs r
end

def Know.le (k k' : Know) : Prop := k.m.le k'.m ∧ ∀ r b, k.μ r = some b → k'.μ r = some b
theorem Know.le_refl (k : Know) : k.le k := ⟨fun _ _ _ h => h, fun _ _ h => h⟩
theorem Know.le_trans {a b c : Know} (h : a.le b) (h' : b.le c) : a.le c := ⟨Mem.le_trans h.1 h'.1, fun _ _ x => h'.2 _ _ (h.2 _ _ x)⟩

/-- The rights that stay. -/
def Own.sub (ow ow' : Own) : Prop := ∀ t p, ow t = some p → ow' t = some p

theorem RepX.mono {k k' : Know} {ow ow' : Own} (h : k.le k') (ho : ow.sub ow') : ∀ (x : X) (v : Value), RepX k ow x v → RepX k' ow' x v :=
  X.rec (motive_1 := fun x => ∀ v, RepX k ow x v → RepX k' ow' x v) (motive_2 := fun xs => ∀ vs, RepXs k ow xs vs → RepXs k' ow' xs vs)
    (fun c v hh => by simp only [RepX] at hh ⊢; exact Rep.mono h.1 _ _ hh)
    (fun v hh => by simpa only [RepX] using hh)
    (fun t e z cs n v hh => by simp only [RepX] at hh ⊢; exact ⟨ho _ _ hh.1, hh.2.1, Rep.mono h.1 _ _ hh.2.2⟩)
    (fun r off v hh => by simp only [RepX] at hh ⊢; obtain ⟨b, hb, hv⟩ := hh; exact ⟨b, h.2 _ _ hb, hv⟩)
    (fun r v hh => by simp only [RepX] at hh ⊢; obtain ⟨b, hb, hv⟩ := hh; exact ⟨b, h.2 _ _ hb, hv⟩)
    (fun f xs ih v hh => by simp only [RepX] at hh ⊢; obtain ⟨vs, hv, hl⟩ := hh; exact ⟨vs, hv, ih _ hl⟩)
    (fun xs ih v hh => by simp only [RepX] at hh ⊢; obtain ⟨vs, hv, h1, hl⟩ := hh; exact ⟨vs, hv, h1, ih _ hl⟩)
    (fun xs ih v hh => by simp only [RepX] at hh ⊢; obtain ⟨vs, hv, hl⟩ := hh; exact ⟨vs, hv, ih _ hl⟩)
    (fun vs hh => by simpa only [RepXs] using hh)
    (fun x xs ih1 ih2 vs hh => by simp only [RepXs] at hh ⊢; obtain ⟨v, r, hv, h1, h2⟩ := hh; exact ⟨v, r, hv, ih1 _ h1, ih2 _ h2⟩)

theorem RepXs.mono {k k' : Know} {ow ow' : Own} (h : k.le k') (ho : ow.sub ow') : ∀ (xs : List X) (vs : List Value), RepXs k ow xs vs → RepXs k' ow' xs vs
  | [], vs, hh => by simpa only [RepXs] using hh
  | x :: xs, vs, hh => by
    simp only [RepXs] at hh ⊢
    obtain ⟨v, r, hv, h1, h2⟩ := hh
    exact ⟨v, r, hv, RepX.mono h ho _ _ h1, RepXs.mono h ho _ _ h2⟩

/-- A right given up. -/
def Own.del (ow : Own) (t : Tk) : Own := fun t' => if t' = t then none else ow t'

theorem RepX.drop {k : Know} {ow : Own} (t : Tk) : ∀ (x : X) (v : Value), RepX k ow x v → RepX k (ow.del t) (x.drop t) v :=
  X.rec (motive_1 := fun x => ∀ v, RepX k ow x v → RepX k (ow.del t) (x.drop t) v) (motive_2 := fun xs => ∀ vs, RepXs k ow xs vs → RepXs k (ow.del t) (X.drops t xs) vs)
    (fun c v hh => by simpa only [X.drop, RepX] using hh)
    (fun v hh => by simpa only [X.drop, RepX] using hh)
    (fun t' e z cs n v hh => by
      simp only [X.drop]
      split
      · simp only [RepX] at hh ⊢; exact hh.2.2
      · rename_i hne
        simp only [RepX] at hh ⊢
        exact ⟨by simp only [Own.del, hne, if_false]; exact hh.1, hh.2⟩)
    (fun r off v hh => by simpa only [X.drop, RepX] using hh)
    (fun r v hh => by simpa only [X.drop, RepX] using hh)
    (fun f xs ih v hh => by simp only [X.drop, RepX] at hh ⊢; obtain ⟨vs, hv, hl⟩ := hh; exact ⟨vs, hv, ih _ hl⟩)
    (fun xs ih v hh => by simp only [X.drop, RepX] at hh ⊢; obtain ⟨vs, hv, h1, hl⟩ := hh; exact ⟨vs, hv, h1, ih _ hl⟩)
    (fun xs ih v hh => by simp only [X.drop, RepX] at hh ⊢; obtain ⟨vs, hv, hl⟩ := hh; exact ⟨vs, hv, ih _ hl⟩)
    (fun vs hh => by simpa only [X.drops, RepXs] using hh)
    (fun x xs ih1 ih2 vs hh => by simp only [X.drops, RepXs] at hh ⊢; obtain ⟨v, r, hv, h1, h2⟩ := hh; exact ⟨v, r, hv, ih1 _ h1, ih2 _ h2⟩)

theorem RepXs.drop {k : Know} {ow : Own} (t : Tk) : ∀ (xs : List X) (vs : List Value), RepXs k ow xs vs → RepXs k (ow.del t) (X.drops t xs) vs
  | [], vs, hh => by simpa only [X.drops, RepXs] using hh
  | x :: xs, vs, hh => by
    simp only [X.drops, RepXs] at hh ⊢
    obtain ⟨v, r, hv, h1, h2⟩ := hh
    exact ⟨v, r, hv, RepX.drop t _ _ h1, RepXs.drop t _ _ h2⟩

theorem RepXs.length {k : Know} {ow : Own} : ∀ {xs : List X} {vs : List Value}, RepXs k ow xs vs → vs.length = xs.length
  | [], vs, h => by simp only [RepXs] at h; simp [h]
  | c :: cs, vs, h => by
    simp only [RepXs] at h
    obtain ⟨v, r, rfl, _, h2⟩ := h
    simp [RepXs.length h2]

theorem RepXs.get {k : Know} {ow : Own} : ∀ {xs : List X} {vs : List Value}, RepXs k ow xs vs → ∀ (i : Nat) (x : X), xs[i]? = some x → ∃ v, vs[i]? = some v ∧ RepX k ow x v
  | [], vs, h, i, c, hc => by simp at hc
  | d :: cs, vs, h, i, c, hc => by
    simp only [RepXs] at h
    obtain ⟨v, r, rfl, h1, h2⟩ := h
    cases i with
    | zero => simp at hc; subst hc; exact ⟨v, by simp, h1⟩
    | succ i => simp at hc; simpa using RepXs.get h2 i c hc

theorem RepXs.dropN {k : Know} {ow : Own} : ∀ (n : Nat) {xs : List X} {vs : List Value}, RepXs k ow xs vs → RepXs k ow (xs.drop n) (vs.drop n)
  | 0, cs, vs, h => by simpa using h
  | n + 1, [], vs, h => by simp only [RepXs] at h; subst h; simp [RepXs]
  | n + 1, c :: cs, vs, h => by
    simp only [RepXs] at h
    obtain ⟨v, r, rfl, _, h2⟩ := h
    simpa using RepXs.dropN n h2

theorem RepXs.takeN {k : Know} {ow : Own} : ∀ (n : Nat) {xs : List X} {vs : List Value}, RepXs k ow xs vs → RepXs k ow (xs.take n) (vs.take n)
  | 0, cs, vs, h => by simp [RepXs]
  | n + 1, [], vs, h => by simp only [RepXs] at h; subst h; simp [RepXs]
  | n + 1, c :: cs, vs, h => by
    simp only [RepXs] at h
    obtain ⟨v, r, rfl, h1, h2⟩ := h
    simp only [List.take_succ_cons, RepXs]
    exact ⟨v, r.take n, rfl, h1, RepXs.takeN n h2⟩

theorem RepXs.append {k : Know} {ow : Own} : ∀ {cs ds : List X} {vs us : List Value}, RepXs k ow cs vs → RepXs k ow ds us → RepXs k ow (cs ++ ds) (vs ++ us)
  | [], ds, vs, us, h, h' => by simp only [RepXs] at h; subst h; simpa using h'
  | c :: cs, ds, vs, us, h, h' => by
    simp only [RepXs] at h
    obtain ⟨v, r, rfl, h1, h2⟩ := h
    simp only [List.cons_append, RepXs]
    exact ⟨v, r ++ us, rfl, h1, RepXs.append h2 h'⟩

theorem RepXs.of {k : Know} {ow : Own} : ∀ {cs : List C} {vs : List Value}, RepL k.m cs vs → RepXs k ow (cs.map .of) vs
  | [], vs, h => by simpa [RepL, RepXs] using h
  | c :: cs, vs, h => by
    simp only [RepL] at h
    obtain ⟨v, r, rfl, h1, h2⟩ := h
    simp only [List.map_cons, RepXs, RepX]
    exact ⟨v, r, rfl, h1, RepXs.of h2⟩

theorem repX_rd {k : Know} {ow : Own} : ∀ (x : X) (c : C) (v : Value), x.rd = some c → RepX k ow x v → Rep k.m c v :=
  X.rec (motive_1 := fun x => ∀ c v, x.rd = some c → RepX k ow x v → Rep k.m c v) (motive_2 := fun xs => ∀ cs vs, X.rds xs = some cs → RepXs k ow xs vs → RepL k.m cs vs)
    (fun c c' v hr hh => by simp only [X.rd, Option.some.injEq] at hr; subst hr; simpa only [RepX] using hh)
    (fun c' v hr hh => by
      simp only [X.rd, Option.some.injEq] at hr
      subst hr
      simp only [RepX] at hh
      subst hh
      simp only [Rep]
      exact ⟨none, 0, [], rfl, Nat.le_refl _, by simp [RepL], fun h => absurd rfl h⟩)
    (fun t e z cs n c' v hr hh => by
      simp only [X.rd, Option.some.injEq] at hr
      subst hr
      simp only [RepX] at hh
      exact hh.2.2)
    (fun r off c' v hr hh => by simp [X.rd] at hr)
    (fun r c' v hr hh => by simp [X.rd] at hr)
    (fun f xs ih c' v hr hh => by simp [X.rd] at hr)
    (fun xs ih c' v hr hh => by
      simp only [X.rd, Option.map_eq_some_iff] at hr
      obtain ⟨cs, hcs, rfl⟩ := hr
      simp only [RepX] at hh
      obtain ⟨vs, rfl, h1, hl⟩ := hh
      simp only [Rep]
      exact ⟨vs, rfl, h1, ih _ _ hcs hl⟩)
    (fun xs ih c' v hr hh => by simp [X.rd] at hr)
    (fun cs vs hr hh => by
      simp only [X.rds, Option.some.injEq] at hr
      subst hr
      simpa only [RepXs, RepL] using hh)
    (fun x xs ih1 ih2 cs vs hr hh => by
      simp only [X.rds] at hr
      split at hr
      · rename_i c cs' h1 h2
        simp only [Option.some.injEq] at hr
        subst hr
        simp only [RepXs] at hh
        obtain ⟨v, r, rfl, hv, hl⟩ := hh
        simp only [RepL]
        exact ⟨v, r, rfl, ih1 _ _ h1 hv, ih2 _ _ h2 hl⟩
      · cases hr)

theorem repX_rds {k : Know} {ow : Own} : ∀ (xs : List X) (cs : List C) (vs : List Value), X.rds xs = some cs → RepXs k ow xs vs → RepL k.m cs vs
  | [], cs, vs, hr, hh => by
    simp only [X.rds, Option.some.injEq] at hr
    subst hr
    simpa only [RepXs, RepL] using hh
  | x :: xs, cs, vs, hr, hh => by
    simp only [X.rds] at hr
    split at hr
    · rename_i c cs' h1 h2
      simp only [Option.some.injEq] at hr
      subst hr
      simp only [RepXs] at hh
      obtain ⟨v, r, rfl, hv, hl⟩ := hh
      simp only [RepL]
      exact ⟨v, r, rfl, repX_rd _ _ _ h1 hv, repX_rds _ _ _ h2 hl⟩
    · cases hr

/-- The cells of a value: each of one cell. -/
theorem repX_cells {k : Know} {ow : Own} {x : X} {xs : List X} {v : Value} (hc : cellsX x = some xs) (h : RepX k ow x v) :
    RepXs k ow xs v.cells.toList ∧ ∀ u ∈ v.cells.toList, u.oneCell' = true := by
  have single : ∀ (x : X), RepX k ow x v → v.oneCell' = true → RepXs k ow [x] v.cells.toList ∧ ∀ u ∈ v.cells.toList, u.oneCell' = true := by
    intro x hx h1
    have : v.cells = #[v] := by cases v <;> simp_all [Value.cells, Value.oneCell']
    rw [this]
    simp only [RepXs]
    exact ⟨⟨v, [], rfl, hx, rfl⟩, by simpa using h1⟩
  cases x with
  | of c =>
    cases c with
    | any => simp [cellsX] at hc
    | undef => simp [cellsX] at hc
    | tup cs => simp [cellsX] at hc
    | agg cs =>
      simp only [cellsX, Option.some.injEq] at hc
      subst hc
      simp only [RepX, Rep] at h
      obtain ⟨vs, rfl, h1, hl⟩ := h
      exact ⟨by simpa [Value.cells] using RepXs.of hl, by simpa [Value.cells] using h1⟩
    | ifc t c =>
      simp only [cellsX, Option.some.injEq] at hc
      subst hc
      exact single _ h (by simp only [RepX, Rep] at h; obtain ⟨u, rfl, _⟩ := h; rfl)
    | lit u =>
      simp only [cellsX, Option.some.injEq] at hc
      subst hc
      exact single _ h (by simp only [RepX, Rep] at h; rw [h.1]; exact h.2)
    | sl cs n =>
      simp only [cellsX, Option.some.injEq] at hc
      subst hc
      exact single _ h (by simp only [RepX, Rep] at h; obtain ⟨a, cap, vs, rfl, _⟩ := h; rfl)
    | ref cs =>
      simp only [cellsX, Option.some.injEq] at hc
      subst hc
      exact single _ h (by simp only [RepX, Rep] at h; obtain ⟨a, cap, vs, rfl, _⟩ := h; rfl)
    | fn f cs =>
      simp only [cellsX, Option.some.injEq] at hc
      subst hc
      exact single _ h (by simp only [RepX, Rep] at h; obtain ⟨vs, rfl, _⟩ := h; rfl)
  | nil =>
    simp only [cellsX, Option.some.injEq] at hc
    subst hc
    exact single _ h (by simp only [RepX] at h; subst h; rfl)
  | own t e z cs n =>
    simp only [cellsX, Option.some.injEq] at hc
    subst hc
    exact single _ h (by simp only [RepX, Rep] at h; obtain ⟨_, _, a, cap, vs, rfl, _⟩ := h; rfl)
  | ptr r off =>
    simp only [cellsX, Option.some.injEq] at hc
    subst hc
    exact single _ h (by simp only [RepX] at h; obtain ⟨b, _, rfl⟩ := h; rfl)
  | mp r =>
    simp only [cellsX, Option.some.injEq] at hc
    subst hc
    exact single _ h (by simp only [RepX] at h; obtain ⟨b, _, rfl⟩ := h; rfl)
  | clo f caps =>
    simp only [cellsX, Option.some.injEq] at hc
    subst hc
    exact single _ h (by simp only [RepX] at h; obtain ⟨b, rfl, _⟩ := h; rfl)
  | agg xs =>
    simp only [cellsX, Option.some.injEq] at hc
    subst hc
    simp only [RepX] at h
    obtain ⟨vs, rfl, h1, hl⟩ := h
    exact ⟨by simpa [Value.cells] using hl, by simpa [Value.cells] using h1⟩
  | tup xs => simp [cellsX] at hc

/-! ### Under other names -/
/-- Names of objects that stand for the same blocks. -/
structure Ren (σ : Nat → Option Nat) (ρ : Tk → Option Tk) (k k' : Know) (ow ow' : Own) : Prop where
  m : k.m.le k'.m
  μ : ∀ r b r', k.μ r = some b → σ r = some r' → k'.μ r' = some b
  ow : ∀ t p t', ow t = some p → ρ t = some t' → ow' t' = some p

theorem RepX.tr {σ : Nat → Option Nat} {ρ : Tk → Option Tk} {k k' : Know} {ow ow' : Own} (h : Ren σ ρ k k' ow ow') : ∀ (x : X) (v : Value), RepX k ow x v → RepX k' ow' (x.tr σ ρ) v :=
  X.rec (motive_1 := fun x => ∀ v, RepX k ow x v → RepX k' ow' (x.tr σ ρ) v) (motive_2 := fun xs => ∀ vs, RepXs k ow xs vs → RepXs k' ow' (X.trs σ ρ xs) vs)
    (fun c v hh => by simp only [RepX, X.tr] at hh ⊢; exact Rep.mono h.m _ _ hh)
    (fun v hh => by simpa only [RepX, X.tr] using hh)
    (fun t e z cs n v hh => by
      simp only [RepX, X.tr] at hh ⊢
      split
      · rename_i t' ht
        simp only [RepX]
        exact ⟨h.ow _ _ _ hh.1 ht, hh.2.1, Rep.mono h.m _ _ hh.2.2⟩
      · simp only [RepX]; exact Rep.mono h.m _ _ hh.2.2)
    (fun r off v hh => by
      simp only [RepX, X.tr] at hh ⊢
      obtain ⟨b, hb, hv⟩ := hh
      split
      · rename_i r' hr; simp only [RepX]; exact ⟨b, h.μ _ _ _ hb hr, hv⟩
      · simp [RepX, Rep])
    (fun r v hh => by
      simp only [RepX, X.tr] at hh ⊢
      obtain ⟨b, hb, hv⟩ := hh
      split
      · rename_i r' hr; simp only [RepX]; exact ⟨b, h.μ _ _ _ hb hr, hv⟩
      · simp [RepX, Rep])
    (fun f xs ih v hh => by simp only [RepX, X.tr] at hh ⊢; obtain ⟨vs, hv, hl⟩ := hh; exact ⟨vs, hv, ih _ hl⟩)
    (fun xs ih v hh => by simp only [RepX, X.tr] at hh ⊢; obtain ⟨vs, hv, h1, hl⟩ := hh; exact ⟨vs, hv, h1, ih _ hl⟩)
    (fun xs ih v hh => by simp only [RepX, X.tr] at hh ⊢; obtain ⟨vs, hv, hl⟩ := hh; exact ⟨vs, hv, ih _ hl⟩)
    (fun vs hh => by simpa only [RepXs, X.trs] using hh)
    (fun x xs ih1 ih2 vs hh => by simp only [RepXs, X.trs] at hh ⊢; obtain ⟨v, r, hv, h1, h2⟩ := hh; exact ⟨v, r, hv, ih1 _ h1, ih2 _ h2⟩)

theorem RepXs.tr {σ : Nat → Option Nat} {ρ : Tk → Option Tk} {k k' : Know} {ow ow' : Own} (h : Ren σ ρ k k' ow ow') : ∀ (xs : List X) (vs : List Value), RepXs k ow xs vs → RepXs k' ow' (X.trs σ ρ xs) vs
  | [], vs, hh => by simpa only [RepXs, X.trs] using hh
  | x :: xs, vs, hh => by
    simp only [RepXs, X.trs] at hh ⊢
    obtain ⟨v, r, hv, h1, h2⟩ := hh
    exact ⟨v, r, hv, RepX.tr h _ _ h1, RepXs.tr h _ _ h2⟩

theorem trs_length (σ : Nat → Option Nat) (ρ : Tk → Option Tk) : ∀ xs : List X, (X.trs σ ρ xs).length = xs.length
  | [] => rfl
  | x :: r => by simp [X.trs, trs_length σ ρ r]

theorem pos_spec {α : Type} [DecidableEq α] : ∀ {l : List α} {a : α} {i : Nat}, pos l a = some i → l[i]? = some a
  | [], a, i, h => by simp [pos] at h
  | b :: l, a, i, h => by
    simp only [pos] at h
    split at h
    · rename_i e
      simp only [Option.some.injEq] at h
      subst h; subst e
      rfl
    · simp only [Option.map_eq_some_iff] at h
      obtain ⟨j, hj, rfl⟩ := h
      simpa using pos_spec hj
theorem pos_none {α : Type} [DecidableEq α] : ∀ {l : List α} {a : α}, pos l a = none → a ∉ l
  | [], a, _ => by simp
  | b :: l, a, h => by
    simp only [pos] at h
    split at h
    · cases h
    · rename_i e
      simp only [Option.map_eq_none_iff] at h
      have := pos_none h
      simp only [List.mem_cons, not_or]
      exact ⟨fun e' => e e'.symm, this⟩

theorem nub_nodup {α : Type} [DecidableEq α] : ∀ (l seen : List α), seen.Nodup → (nub l seen).Nodup
  | [], seen, h => h
  | a :: l, seen, h => by
    simp only [nub]
    split
    · exact nub_nodup l seen h
    · rename_i hn
      refine nub_nodup l _ ?_
      rw [List.nodup_append]
      exact ⟨h, by simp, fun x hx y hy => by simp at hy; subst hy; exact fun e => hn (e ▸ hx)⟩

theorem reach_nodup (objs : List Ob) : ∀ (n : Nat) (todo seen : List Nat), seen.Nodup → (reach objs n todo seen).Nodup
  | 0, _, seen, h => h
  | _ + 1, [], seen, h => h
  | n + 1, r :: todo, seen, h => by
    simp only [reach]
    split
    · exact reach_nodup objs n todo seen h
    · rename_i hn
      refine reach_nodup objs n _ _ ?_
      rw [List.nodup_append]
      exact ⟨h, by simp, fun x hx y hy => by simp at hy; subst hy; exact fun e => hn (e ▸ hx)⟩

theorem reach_front (objs : List Ob) : ∀ (n : Nat) (todo seen : List Nat), ∃ q, reach objs n todo seen = seen ++ q
  | 0, _, seen => ⟨[], by simp [reach]⟩
  | _ + 1, [], seen => ⟨[], by simp [reach]⟩
  | n + 1, r :: todo, seen => by
    simp only [reach]
    split
    · exact reach_front objs n todo seen
    · obtain ⟨q, hq⟩ := reach_front objs n (((objs[r]?).map Ob.refs).getD [] ++ todo) (seen ++ [r])
      exact ⟨r :: q, by rw [hq]; simp⟩

end Go.Pe

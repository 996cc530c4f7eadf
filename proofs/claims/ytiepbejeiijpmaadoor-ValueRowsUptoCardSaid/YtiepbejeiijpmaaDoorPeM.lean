/-
  An abstract machine for Go code over plain data: maps. Conditions: none.
-/
import Derived.Test.YtiepbejeiijpmaaDoorPe7
import Derived.MapKept
namespace Go.Pe
open Go.RowKit

theorem findNow_of (kind : TypeDesc) (k : Value) : ∀ (ms : List MapEntry) (es : List (Value × C)) (i : Nat) (r : Option Nat), ms.map (·.key) = es.map (·.1) → findX kind k es i = some r →
    (∀ j, r = some j → i ≤ j ∧ ∃ e, ms[j - i]? = some e ∧ Instr.findNow kind k ms i = some (some (j, e.val))) ∧ (r = none → Instr.findNow kind k ms i = some none)
  | [], [], i, r, _, h => by
    simp only [findX, Option.some.injEq] at h
    subst h
    exact ⟨fun j hj => (by cases hj), fun _ => rfl⟩
  | [], _ :: _, i, r, hk, _ => by simp at hk
  | _ :: _, [], i, r, hk, _ => by simp at hk
  | m :: ms, e :: es, i, r, hk, h => by
    simp only [List.map_cons, List.cons.injEq] at hk
    simp only [findX] at h
    simp only [Instr.findNow, hk.1]
    split at h
    · rename_i hsn
      simp only [Option.some.injEq] at h
      subst h
      rw [hsn]
      exact ⟨fun j hj => by cases hj; exact ⟨Nat.le_refl _, m, by simp, rfl⟩, fun h => (by cases h)⟩
    · rename_i hsn
      rw [hsn]
      obtain ⟨g1, g2⟩ := findNow_of kind k ms es (i + 1) r hk.2 h
      refine ⟨fun j hj => ?_, g2⟩
      obtain ⟨h1, e', h2, h3⟩ := g1 j hj
      refine ⟨by omega, e', ?_, h3⟩
      obtain ⟨q, rfl⟩ : ∃ q, j = i + 1 + q := ⟨j - (i + 1), by omega⟩
      have e1 : i + 1 + q - i = q + 1 := by omega
      have e2 : i + 1 + q - (i + 1) = q := by omega
      rw [e1]
      rw [e2] at h2
      simpa using h2
    · cases h

section
variable {P : Program} {M0 : Base} {k : Know} {ow : Own} {done : Nat → Prop} {w0 w : World} {N : Nat} {s : S} {tmps : Array Value}

theorem mapTy_inv {T : TT} {t et : Nat} {kind : TypeDesc} (h : mapTy T t = some (kind, et)) : ∃ d kt d', T t = some d ∧ d.und = .map kt et ∧ T kt = some d' ∧ d'.und = kind ∧ keyKind kind = true := by
  unfold mapTy at h
  split at h
  · rename_i kt et' _ _ _ _ _ hT
    split at h
    · rename_i kind' hK
      split at h
      · rename_i hkk
        simp only [Option.some.injEq, Prod.mk.injEq] at h
        obtain ⟨rfl, rfl⟩ := h
        simp only [Option.map_eq_some_iff] at hK
        obtain ⟨d', h1, h2⟩ := hK
        exact ⟨_, kt, d', hT, rfl, h1, h2, hkk⟩
      · cases h
    · cases h
  · cases h

theorem run_checkKey {kt : Nat} {kind : TypeDesc} (hu : (underlying kt).run P w = .ok kind w) (hk : keyKind kind = true) (b : Bool) (v : Value) : (Instr.checkKey b 10000 kt v).run P w = .ok () w := by
  have : ∀ n, (Instr.checkKey b (n + 1) kt v).run P w = .ok () w := fun n => by
    unfold Instr.checkKey
    simp only [Sem.run_bind, hu, Result.andThen_ok]
    cases kind <;> simp [keyKind] at hk <;> rfl
  exact this 9999

theorem run_findKey {kt : Nat} {kind : TypeDesc} (hu : (underlying kt).run P w = .ok kind w) {v : Value} {ms : List MapEntry} {r : Option (Nat × Value)} (h : Instr.findNow kind v ms 0 = some r) : (Instr.findKey kt v ms).run P w = .ok r w := by
  simp only [Instr.findKey, Sem.run_bind, hu, Result.andThen_ok, h, Sem.run_pure]

theorem litOf_rep {x : X} {u v : Value} (h : litOf x = some u) (hx : RepX k ow x v) : v = u := by
  unfold litOf at h
  split at h
  · simp only [Option.some.injEq] at h
    subst h
    simp only [RepX, Rep] at hx
    exact hx.1
  · cases h

theorem zero1_rep {et : Nat} {z : X} (h : zero1 (TT.of P) et = some z) (w : World) : ∃ u, (zeroValue et).run P w = .ok u w ∧ RepX k ow z u := by
  unfold zero1 at h
  split at h
  · rename_i d hT
    have ok := TT.of_ok hT
    obtain ⟨u, h1, h2, h3⟩ := ok.run_zero2 w
    have hrep : RepXs k ow (zeroX d) d.zero := zeroX_rep d.zero
    obtain ⟨g1, g2, g3⟩ := pieceX_rep hT h hrep ok.one
    refine ⟨u, h1, ?_⟩
    rw [ok.len.symm, List.take_length] at g3
    cases hagg : d.agg with
    | true =>
      rw [hagg] at h3 g3
      cases u with
      | agg us =>
        simp only [if_true] at g3
        have : us = d.zero.toArray := by rw [← h2]; simp [Value.cells]
        rw [this]
        exact g3
      | _ => simp [isAggV] at h3
    | false =>
      rw [hagg] at h3 g3
      have hu : u.cells = #[u] := by cases u <;> simp_all [isAggV, Value.cells]
      rw [hu] at h2
      rw [← h2] at g3
      simpa using g3
  · cases h

/-- A map that is read. -/
theorem mapOf_rep (hs : Sim M0 k ow done w0 w N s tmps) {x : X} {es : List (Value × C)} {v : Value} (h : mapOf s.objs x = some es) (hx : RepX k ow x v) :
    ∃ ms : List MapEntry, ms.map (·.key) = es.map (·.1) ∧ RepL k.m (es.map (·.2)) (ms.map (·.val)) ∧
      ((v = .map none ∧ ms = []) ∨ ∃ r cl, v = .map (some r) ∧ w.heap[r]? = some (.map ms.toArray cl)) := by
  unfold mapOf at h
  split at h
  · rename_i r
    split at h
    · rename_i es' hr
      simp only [Option.some.injEq] at h
      subst h
      obtain ⟨b, hb, _, _, _, ms, cl, hh, h1, h2⟩ := hs.obj r _ hr
      simp only [RepX] at hx
      obtain ⟨b', hb', rfl⟩ := hx
      obtain rfl : b' = b := Option.some.inj (hb'.symm.trans hb)
      exact ⟨ms.toList, h1, h2, .inr ⟨b', cl, rfl, hh⟩⟩
    · cases h
  · simp only [Option.some.injEq] at h
    subst h
    simp only [RepX, Rep] at hx
    exact ⟨[], rfl, by simp [RepL], .inl ⟨hx.1, rfl⟩⟩
  · cases h

theorem lookup_sound (hs : Sim M0 k ow done w0 w N s tmps) {t : Nat} {x kx y : X} {ok : Bool} {e : Option Tk} {v vk : Value} (h : lookupX (TT.of P) s.objs t x kx ok = some (y, e)) (hx : RepX k ow x v) (hkx : RepX k ow kx vk) :
    e = none ∧ ∃ u, (Instr.lookup t v vk ok).run P w = .ok u w ∧ RepX k ow y u := by
  unfold lookupX at h
  split at h
  · rename_i kind et kv es hty hlit hmap
    obtain ⟨d, kt, d', hT, hu, hT', hu', hkk⟩ := mapTy_inv hty
    have r1 := (TT.of_ok hT).run_und w
    have r2 := (TT.of_ok hT').run_und w
    rw [hu] at r1
    rw [hu'] at r2
    obtain rfl := litOf_rep hlit hkx
    obtain ⟨ms, hk1, hk2, hv⟩ := mapOf_rep hs hmap hx
    have pre : ∀ r, Instr.findNow kind vk ms 0 = some r → (Instr.lookup t v vk ok).run P w = (do
        let (v, ok') ← match r with
          | some (_, v) => pure (v, true)
          | none => do pure (← zeroValue et, false)
        pure (if ok then Value.tuple #[v, .bool ok'] else v) : Sem Value).run P w := by
      intro r hr
      have hf := run_findKey r2 hr
      rcases hv with ⟨rfl, rfl⟩ | ⟨b, cl, rfl, hh⟩
      · simp only [Instr.lookup, Sem.run_bind, r1, Result.andThen_ok, Sem.run_pure, run_checkKey r2 hkk]
        rw [hf]
        rfl
      · simp only [Instr.lookup, Sem.run_bind, r1, Result.andThen_ok, Sem.run_pure, run_checkKey r2 hkk, Go.MapKept.run_getObj_map hh]
        rw [hf]
        rfl
    split at h
    · rename_i i hfind
      obtain ⟨g1, _⟩ := findNow_of kind vk ms es 0 _ hk1 hfind
      obtain ⟨_, e', he, hnow⟩ := g1 i rfl
      simp only [outO, Option.map_eq_some_iff, Prod.mk.injEq] at h
      obtain ⟨y', ⟨p, hp, rfl⟩, rfl, rfl⟩ := h
      refine ⟨rfl, ?_⟩
      rw [pre _ hnow]
      simp only [Nat.sub_zero] at he
      obtain ⟨u, hu1, hu2⟩ := hk2.get i p.2 (by simp [hp])
      simp only [List.getElem?_map, he, Option.map_some, Option.some.injEq] at hu1
      subst hu1
      cases ok with
      | true => exact ⟨_, rfl, by simp [RepX, RepXs, Rep, Value.oneCell', hu2]⟩
      | false => exact ⟨_, rfl, by simpa [RepX] using hu2⟩
    · rename_i hfind
      obtain ⟨_, g2⟩ := findNow_of kind vk ms es 0 _ hk1 hfind
      have hnow := g2 rfl
      simp only [outO, Option.map_eq_some_iff, Prod.mk.injEq] at h
      obtain ⟨y', ⟨z, hz, rfl⟩, rfl, rfl⟩ := h
      refine ⟨rfl, ?_⟩
      rw [pre _ hnow]
      obtain ⟨u, hu1, hu2⟩ := zero1_rep (k := k) (ow := ow) hz w
      cases ok with
      | true => exact ⟨_, by simp [hu1]; rfl, by simp [RepX, RepXs, Rep, Value.oneCell', hu2]⟩
      | false => exact ⟨_, by simp [hu1]; rfl, by simpa [RepX] using hu2⟩
    · cases h
  · cases h
end
end Go.Pe

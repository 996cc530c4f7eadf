/-
  All that is given holds: with value.Sorted at few rows. Conditions: none.
-/
import Derived.Test.YtiepbejeiijpmaaDoorSo5
namespace Go.Proofs.YtiepbejeiijpmaaDoor
open Go Go.Pe Go.Tab Go.RowKit

theorem okRows_row {l : List (List V)} (h : okRows l = true) : ∀ r ∈ l, r.length ≤ 1048576 := fun r hr => by
  simp only [okRows, Bool.and_eq_true, List.all_eq_true, okRow, decide_eq_true_eq] at h
  have h1 := (h.2 r hr).1
  have := len_wt r
  omega
theorem sorted_sound (xs : List X) (obs : List Ob) (an : An) (h : sortedP xs obs = some an) : Sound Tryd.prog GT 41 xs obs an := by
  unfold sortedP at h
  split at h
  · rename_i c
    simp only [Option.bind_eq_some_iff] at h
    obtain ⟨l, hl, h⟩ := h
    obtain rfl := unrows_eq hl
    split at h
    · rename_i hc
      simp only [Option.some.injEq] at h
      subst h
      intro fn hf k ow w vs hp hold hcl hvs
      simp only [RepXs, RepX] at hvs
      obtain ⟨v, r, rfl, hv, rfl⟩ := hvs
      have h20 : l.length < 20 := by have := hc.2; unfold maxSort at this; omega
      refine (sorted_walk l v w hp.table hp.mem hv h20 (okRows_row hc.1)).mono ?_
      rintro e w' ⟨v', rfl, hB, hR⟩
      have hg := hp.grow hB
      have hle : k.m.le fun b o => if b < w.heap.size then k.m b o else memN w.heap.size w' b o := fun b o u hu => by
        simp only
        rw [if_pos (mem_lt hp.mem hu)]
        exact hu
      refine ⟨⟨fun b o => if b < w.heap.size then k.m b o else memN w.heap.size w' b o, k.μ⟩, ow, [_], rfl, ?_, hle, Nat.le_refl _, fun _ _ => rfl, hold, hcl, _, _, rfl, ?_, rfl⟩
      · exact {
          good := hg.good
          below := hg.below
          mem := fun b o u hu => by
            simp only at hu
            split at hu
            · exact hg.mem b o u hu
            · exact (memN_some hu).2
          obj := fun r ob hr => by simp at hr
          dom := hp.dom
          inj := hp.inj
          tok := fun t u e z n ht => by
            obtain ⟨h1, h2⟩ := hg.tok t u e z n ht
            refine ⟨h1, fun g hgb => ⟨(h2 g hgb).1, fun o ho => ?_, (h2 g hgb).2.2⟩⟩
            simp only
            rw [if_pos (hp.tlt ht hgb).2]
            exact (h2 g hgb).2.1 o ho
          tokne := hp.tokne
          m0 := fun b o u hu hb hm => by
            simp only at hu
            rw [if_pos hb] at hu
            exact hp.m0 b o u hu hb hm }
      · refine Rep.mono (fun b o u hu => ?_) _ _ hR
        have := (memN_some hu).1
        simp only
        rw [if_neg (by omega)]
        exact hu
    · cases h
  · cases h
/-- What is given holds. -/
theorem pr_sound : PrSound Tryd.prog GT pr := prB_sound fun _ => sorted_sound
end Go.Proofs.YtiepbejeiijpmaaDoor

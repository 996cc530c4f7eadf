/-
  slices.symMergeCmpFunc at rows, where one of the two ranges is one row: walked. Conditions: none.
-/
import Derived.Test.YtiepbejeiijpmaaDoorPa7
import Derived.Laws.Cover3
import Derived.Sort.LotA
namespace Go.Proofs.YtiepbejeiijpmaaDoor
open Go Go.Pe Go.Tab Go.RowKit Go.Sort Go.Proofs

/-- Memory from a block on, as it is. -/
def memN (lo : Nat) (W : World) : Mem := fun b o => if lo ≤ b then (match W.cell? ⟨b, o, none⟩ with
  | some v => if v.oneCell' = true then some v else none
  | none => none) else none
theorem memN_some {lo b o : Nat} {W : World} {v : Value} (h : memN lo W b o = some v) : lo ≤ b ∧ W.cell? ⟨b, o, none⟩ = some v ∧ v.oneCell' = true := by
  unfold memN at h
  split at h
  · rename_i hl
    split at h
    · split at h
      · rename_i h1 h2
        cases h
        exact ⟨hl, h1, h2⟩
      · cases h
    · cases h
  · cases h
theorem memN_at {lo b o : Nat} {W : World} {v : Value} (hl : lo ≤ b) (h : W.cell? ⟨b, o, none⟩ = some v) (h1 : v.oneCell' = true) : memN lo W b o = some v := by
  unfold memN
  rw [if_pos hl, h]
  simp [h1]
/-- A slice that lies there. -/
theorem rep_sl {m : Mem} {cs : List C} {vs : List Value} {a : Option Addr} {n cap : Nat} (hl : RepL m cs vs) (hc : n ≤ cap) (h : vs ≠ [] → ∃ b o, a = some ⟨b, o, none⟩ ∧ ∀ i u, vs[i]? = some u → m b (o + i) = some u) : Rep m (.sl cs n) (.slice a n cap) :=
  ⟨a, cap, vs, rfl, hc, hl, h⟩
/-- A value's own cells hang on no memory. -/
theorem repL_vals {m m' : Mem} : ∀ (r : List V) (vs : List Value), RepL m (valsC r) vs → RepL m' (valsC r) vs
  | [], vs, h => h
  | v :: r, vs, h => by
    rw [valsC_cons] at h ⊢
    simp only [valC, List.cons_append, List.nil_append, RepL, Rep] at h ⊢
    obtain ⟨a, ra, rfl, h1, b, rb, rfl, h2, c, rc, rfl, h3, h4⟩ := h
    exact ⟨a, _, rfl, h1, b, _, rfl, h2, c, _, rfl, h3, repL_vals r rc h4⟩

theorem row_nil (x : Option Addr) (l c : Nat) (w : World) : (binOp .eql 28 (.slice x l c) (.slice none 0 0)).run Tryd.prog w = .ok (.bool x.isNone) w := by
  simp [binOp, run_equal_slice_nil w 28 34 x l c Tryd.underlying28]
theorem wp_append_any {P : Program} {w : World} {ops : Array Oper} {rest : List Oper} {o : Oper} {a : Act} {Q : Exit → Act → World → Prop} (hgd : o.guard = none) (sl x : Operand) (t : TypeId)
    (ho : o.op = .call { callee := .builtin .append, args := #[sl, x], argTypes := #[t, t] })
    (e : TypeId) (d : TD) (ht : P.underlying t = some (.slice e)) (hd : TT.of P e = some d) (hz : 0 < d.size) (hby : d.bytes ≤ 32768) (B : Nat)
    (v : Value) (n : Nat) (xs : List Value) (hs : a.eval sl = v) (hown : w.ownsRow B e d.size v n xs) (A : Option Addr) (m c : Nat) (news : List Value) (hx : a.eval x = .slice A m c) (hl : news.length = m * d.size)
    (hnews : news ≠ [] → ∃ b o, A = some ⟨b, o, none⟩ ∧ ∀ i u, news[i]? = some u → w.cell? ⟨b, o + i, none⟩ = some u) (h1 : ∀ u ∈ news, u.oneCell' = true) (hb : n + m ≤ LIM) (hB : B ≤ w.heap.size)
    (h : ∀ v' w', w'.ownsRow B e d.size v' (n + m) (xs ++ news) → ((w.grownBy w' v.ownBlock ∧ v'.ownBlock = v.ownBlock) ∨ (w.grownBy w' none ∧ v'.ownBlock = some w.heap.size)) → wpList P ops Q rest (a.put o.dst v') w') : wpList P ops Q (o :: rest) a w := by
  refine wpList_plain hgd fun K hK => ?_
  obtain ⟨v', w', hr, h2, h3⟩ := run_append_at (P := P) (w := w) (t := t) (ty := o.type) (c := c) ht hd hz hown (A := A) (m := m) (news := news) hl hnews h1 hb hby hB
  unfold Oper.wp execOp
  simp only [ho, resolve, invoke, builtin, Sem.run_bind, Sem.run_pure, Result.andThen_ok, List.map_toArray, List.map_cons, List.map_nil, hs, hx, hr]
  exact hK _ _ (h v' w' h2 h3)

set_option maxHeartbeats 4000000 in
set_option maxRecDepth 100000 in
theorem clone_walk {m : Mem} (r : List V) (v : Value) (w : World) (hm : ∀ b o u, m b o = some u → w.cell? ⟨b, o, none⟩ = some u ∧ u.oneCell' = true) (hv : Rep m (rowC r) v) (hr : r.length ≤ 1048576) :
    Calls Tryd.prog 69 #[v] w fun e w' => ∃ v', e = .returned v' ∧ Below w.heap.size w w' ∧ Rep (memN w.heap.size w') (rowC r) v' ∧ ∃ a n c, v' = .slice a n c := by
  obtain ⟨A, cap, vs, rfl, hcap, hl, hcell⟩ := hv
  have h1 : ∀ u ∈ vs, u.oneCell' = true := fun u hu => by
    obtain ⟨b, o, _, hc⟩ := hcell (by rintro rfl; cases hu)
    obtain ⟨i, hi⟩ := List.mem_iff_getElem?.1 hu
    exact (hm _ _ _ (hc i u hi)).2
  have hlen : vs.length = r.length * 3 := by rw [hl.length, valsC_length]
  cases A with
  | none =>
    have h0 : vs = [] := by
      cases vs with
      | nil => rfl
      | cons x y => obtain ⟨b, o, h, _⟩ := hcell (by simp); cases h
    have hr0 : r = [] := List.eq_nil_of_length_eq_zero (by rw [h0] at hlen; simp at hlen; omega)
    subst hr0
    have hn := row_nil none 0 cap
    go_enter Tryd.func69, Tryd.ntmps69
    go_wp2
    go_ret
    exact ⟨_, rfl, .refl _ _, rep_sl rfl (Nat.le_refl _) fun h => absurd rfl h, _, _, _, rfl⟩
  | some ad =>
    have hn := row_nil (some ad) r.length cap
    go_enter Tryd.func69, Tryd.ntmps69
    go_wp2_with (at_builtin; refine wp_append_any rfl _ _ 28 rfl 34 _ Tryd.underlying28 T34 (by decide) (by decide) w.heap.size _ 0 [] rfl ?own _ r.length cap vs rfl hlen ?c1 h1 ?c2 ?c3 ?_)
    case own => exact World.ownsRow_made w #[] 0 (Nat.le_refl _) (by simp only [maxLen]; omega) rfl
    case c1 =>
      intro hne
      obtain ⟨b, o, e, hc⟩ := hcell hne
      refine ⟨b, o, e, fun i u hu => ?_⟩
      have h2 := (hm _ _ _ (hc i u hu)).1
      have hlt := World.block_lt_of_cell? (a := ⟨b, o + i, none⟩) w h2
      rw [← h2]
      exact World.cell?_of_block (a := ⟨b, o + i, none⟩) (Lib.alloc_old w _ b hlt)
    case c2 => unfold LIM; omega
    case c3 => simp
    intro v' w2 hown hg
    go_wp2
    go_ret
    have hb : Below w.heap.size w w2 := by
      have ha : Below w.heap.size w (w.alloc (.cells #[] 34)) := (Below.refl _ w).alloc (Nat.le_refl _) _
      rcases hg with ⟨hg, _⟩ | ⟨hg, _⟩
      · exact ⟨hg.os, hg.tape, hg.output, by have := hg.size; simp at this; omega, fun k hk => (hg.block k (by simp; omega) (by simp [Value.ownBlock]; omega)).trans (ha.block k hk)⟩
      · exact ⟨hg.os, hg.tape, hg.output, by have := hg.size; simp at this; omega, fun k hk => (hg.block k (by simp; omega) (by simp)).trans (ha.block k hk)⟩
    try simp only [Nat.zero_add, List.nil_append] at hown
    have hcells := hown
    rcases hown.2 with ⟨e1, e2⟩ | ⟨g, cap2, cur, e1, hge, _, hnc, _⟩
    · have hr0 : r = [] := List.eq_nil_of_length_eq_zero e2
      subst hr0
      exact ⟨_, rfl, hb, by rw [e1]; exact rep_sl (vs := []) rfl (Nat.le_refl _) fun h => absurd rfl h, _, _, _, e1⟩
    · refine ⟨_, rfl, hb, ?_, _, _, _, e1⟩
      rw [e1]
      refine rep_sl (repL_vals r vs hl) hnc fun _ => ⟨g, 0, rfl, fun i u hu => ?_⟩
      have h2 := hcells.cells (g := g) (by rw [e1]; rfl) i u hu
      rw [Addr.add_lit] at h2
      exact memN_at hge h2 (h1 u (List.mem_of_getElem? hu))
end Go.Proofs.YtiepbejeiijpmaaDoor
namespace Go.Srt
open Go.Sort
variable {α : Type} [Inhabited α] {lt : α → α → Bool} {d dk d' : Array α}

def swr (d : Array α) (a b k t : Nat) : α := if a ≤ t ∧ t < a + k then d[t - a + b]! else if b ≤ t ∧ t < b + k then d[t - b + a]! else d[t]!
theorem swr_zero (a b : Nat) : ∀ t, d[t]! = swr d a b 0 t := fun t => by
  unfold swr
  rw [if_neg (by omega), if_neg (by omega)]
theorem swr_step {a b k n : Nat} (hs : dk.size = d.size) (h : ∀ t, dk[t]! = swr d a b k t) (hk : k < n) (hab : a + n ≤ b) (hb : b + n ≤ d.size) : ∀ t, (swp dk (a + k) (b + k))[t]! = swr d a b (k + 1) t := fun t => by
  rw [swp_get dk (by omega) (by omega) t]
  have e1 : dk[a + k]! = d[a + k]! := by rw [h]; unfold swr; rw [if_neg (by omega), if_neg (by omega)]
  have e2 : dk[b + k]! = d[b + k]! := by rw [h]; unfold swr; rw [if_neg (by omega), if_neg (by omega)]
  by_cases h1 : t = b + k
  · rw [if_pos h1, e1]
    unfold swr
    rw [if_neg (by omega), if_pos (by omega)]
    congr 1
    omega
  · rw [if_neg h1]
    by_cases h2 : t = a + k
    · rw [if_pos h2, e2]
      unfold swr
      rw [if_pos (by omega)]
      congr 1
      omega
    · rw [if_neg h2, h]
      unfold swr
      by_cases c1 : a ≤ t ∧ t < a + k
      · rw [if_pos c1, if_pos (by omega)]
      · rw [if_neg c1]
        by_cases c2 : b ≤ t ∧ t < b + k
        · rw [if_pos c2, if_neg (by omega), if_pos (by omega)]
        · rw [if_neg c2, if_neg (by omega), if_neg (by omega)]

def rot (d : Array α) (a m b t : Nat) : α := if a ≤ t ∧ t < a + (b - m) then d[t + (m - a)]! else if a + (b - m) ≤ t ∧ t < b then d[t - (b - m)]! else d[t]!
theorem rot_gt {m i j : Nat} (hi : i ≤ m) (hij : j < i) (h : ∀ t, d'[t]! = swr d (m - i) m j t) : ∀ t, rot d' (m - (i - j)) m (m + j) t = rot d (m - i) m (m + j) t := fun t => by
  unfold rot
  by_cases c1 : m - i ≤ t ∧ t < m - i + (m + j - m)
  · rw [if_pos c1, if_neg (by omega), if_neg (by omega), h]
    unfold swr
    rw [if_pos (by omega)]
    congr 1
    omega
  · rw [if_neg c1]
    by_cases c2 : m - i + (m + j - m) ≤ t ∧ t < m + j
    · rw [if_pos c2]
      by_cases c3 : m - (i - j) ≤ t ∧ t < m - (i - j) + (m + j - m)
      · rw [if_pos c3, h]
        unfold swr
        rw [if_neg (by omega), if_pos (by omega)]
        congr 1
        omega
      · rw [if_neg c3, if_pos (by omega), h]
        unfold swr
        rw [if_neg (by omega), if_neg (by omega)]
    · rw [if_neg c2, if_neg (by omega), if_neg (by omega), h]
      unfold swr
      rw [if_neg (by omega), if_neg (by omega)]
theorem rot_lt {m i j : Nat} (hi : i ≤ m) (hij : i < j) (h : ∀ t, d'[t]! = swr d (m - i) (m + j - i) i t) : ∀ t, rot d' (m - i) m (m + (j - i)) t = rot d (m - i) m (m + j) t := fun t => by
  unfold rot
  by_cases c1 : m - i ≤ t ∧ t < m - i + (m + j - m)
  · rw [if_pos c1]
    by_cases c3 : m - i ≤ t ∧ t < m - i + (m + (j - i) - m)
    · rw [if_pos c3, h]
      unfold swr
      rw [if_neg (by omega), if_neg (by omega)]
    · rw [if_neg c3, if_pos (by omega), h]
      unfold swr
      rw [if_pos (by omega)]
      congr 1
      omega
  · rw [if_neg c1]
    by_cases c2 : m - i + (m + j - m) ≤ t ∧ t < m + j
    · rw [if_pos c2, if_neg (by omega), if_neg (by omega), h]
      unfold swr
      rw [if_neg (by omega), if_pos (by omega)]
      congr 1
      omega
    · rw [if_neg c2, if_neg (by omega), if_neg (by omega), h]
      unfold swr
      rw [if_neg (by omega), if_neg (by omega)]
theorem rot_eq {m i : Nat} (hi : i ≤ m) (h : ∀ t, d'[t]! = swr d (m - i) m i t) : ∀ t, d'[t]! = rot d (m - i) m (m + i) t := fun t => by
  rw [h]
  unfold rot swr
  by_cases c1 : m - i ≤ t ∧ t < m - i + (m + i - m)
  · rw [if_pos c1, if_pos (by omega)]
    congr 1
    omega
  · rw [if_neg c1, if_neg (by omega)]
    by_cases c2 : m - i + (m + i - m) ≤ t ∧ t < m + i
    · rw [if_pos c2, if_pos (by omega)]
      congr 1
      omega
    · rw [if_neg c2, if_neg (by omega)]
theorem rot_none {a m b : Nat} (h : a = m ∨ m = b) (ham : a ≤ m) (hmb : m ≤ b) : ∀ t, d[t]! = rot d a m b t := fun t => by
  unfold rot
  by_cases c1 : a ≤ t ∧ t < a + (b - m)
  · rw [if_pos c1]; congr 1; omega
  · rw [if_neg c1]
    by_cases c2 : a + (b - m) ≤ t ∧ t < b
    · rw [if_pos c2]; congr 1; omega
    · rw [if_neg c2]

/-- From a to k. -/
def shl (d : Array α) (a k t : Nat) : α := if a ≤ t ∧ t < k then d[t + 1]! else if t = k then d[a]! else d[t]!
theorem shl_zero (a : Nat) : ∀ t, d[t]! = shl d a a t := fun t => by
  unfold shl
  rw [if_neg (by omega)]
  by_cases h : t = a
  · rw [if_pos h, h]
  · rw [if_neg h]
theorem shl_step {a k : Nat} (hs : dk.size = d.size) (h : ∀ t, dk[t]! = shl d a k t) (hak : a ≤ k) (hk : k + 1 < d.size) : ∀ t, (swp dk k (k + 1))[t]! = shl d a (k + 1) t := fun t => by
  rw [swp_get dk (by omega) (by omega) t]
  have e1 : dk[k]! = d[a]! := by rw [h]; unfold shl; rw [if_neg (by omega), if_pos rfl]
  have e2 : dk[k + 1]! = d[k + 1]! := by rw [h]; unfold shl; rw [if_neg (by omega), if_neg (by omega)]
  unfold shl
  by_cases h1 : t = k + 1
  · rw [if_pos h1, if_neg (by omega), if_pos h1, e1]
  · rw [if_neg h1]
    by_cases h2 : t = k
    · rw [if_pos h2, if_pos (by omega), e2, h2]
    · rw [if_neg h2, h]
      unfold shl
      by_cases c1 : a ≤ t ∧ t < k
      · rw [if_pos c1, if_pos (by omega)]
      · rw [if_neg c1, if_neg h2, if_neg (by omega), if_neg h1]
theorem merge_left (hS : SWO lt) {a b i : Nat} (hr : SortedIn lt (a + 1) b d) (hi : a + 1 ≤ i) (hib : i ≤ b) (h1 : i = a + 1 ∨ lt d[i - 1]! d[a]! = true) (h2 : i = b ∨ lt d[i]! d[a]! = false) (h : ∀ t, d'[t]! = shl d a (i - 1) t) : SortedIn lt a b d' := by
  intro p q hp hpq hq
  rw [h, h]
  unfold shl
  by_cases cq : a ≤ q ∧ q < i - 1
  · rw [if_pos cq, if_pos (by omega)]
    exact hr _ _ (by omega) (by omega) (by omega)
  · rw [if_neg cq]
    by_cases eq : q = i - 1
    · rw [if_pos eq, if_pos (by omega)]
      rcases h1 with h1 | h1
      · omega
      · have h3 : lt d[p + 1]! d[a]! = true := by
          by_cases e : p + 1 = i - 1
          · rw [e]; exact h1
          · have := hr (p + 1) (i - 1) (by omega) (by omega) (by omega)
            cases hc : lt d[p + 1]! d[a]! with
            | true => rfl
            | false =>
              have := hS.ntrans _ _ _ this hc
              rw [h1] at this
              cases this
        exact hS.asymmA h3
    · rw [if_neg eq]
      have hq2 : i ≤ q := by omega
      have h4 : lt d[q]! d[a]! = false := by
        rcases h2 with h2 | h2
        · omega
        · by_cases e : q = i
          · rw [e]; exact h2
          · exact hS.ntrans _ _ _ (hr i q hi (by omega) (by omega)) h2
      by_cases cp : a ≤ p ∧ p < i - 1
      · rw [if_pos cp]
        exact hr _ _ (by omega) (by omega) (by omega)
      · rw [if_neg cp]
        by_cases ep : p = i - 1
        · rw [if_pos ep]; exact h4
        · rw [if_neg ep]
          exact hr _ _ (by omega) (by omega) (by omega)
/-- From m down to k. -/
def shr (d : Array α) (m k t : Nat) : α := if k < t ∧ t ≤ m then d[t - 1]! else if t = k then d[m]! else d[t]!
theorem shr_zero (m : Nat) : ∀ t, d[t]! = shr d m m t := fun t => by
  unfold shr
  rw [if_neg (by omega)]
  by_cases h : t = m
  · rw [if_pos h, h]
  · rw [if_neg h]
theorem shr_step {m k : Nat} (hs : dk.size = d.size) (h : ∀ t, dk[t]! = shr d m (k + 1) t) (hkm : k + 1 ≤ m) (hm : m < d.size) : ∀ t, (swp dk (k + 1) k)[t]! = shr d m k t := fun t => by
  rw [swp_get dk (by omega) (by omega) t]
  have e1 : dk[k + 1]! = d[m]! := by rw [h]; unfold shr; rw [if_neg (by omega), if_pos rfl]
  have e2 : dk[k]! = d[k]! := by rw [h]; unfold shr; rw [if_neg (by omega), if_neg (by omega)]
  unfold shr
  by_cases h1 : t = k
  · rw [if_pos h1, if_neg (by omega), if_pos h1, e1]
  · rw [if_neg h1]
    by_cases h2 : t = k + 1
    · rw [if_pos h2, if_pos (by omega), e2, h2]
      rfl
    · rw [if_neg h2, h]
      unfold shr
      by_cases c1 : k + 1 < t ∧ t ≤ m
      · rw [if_pos c1, if_pos (by omega)]
      · rw [if_neg c1, if_neg h2, if_neg (by omega), if_neg h1]
theorem merge_right (hS : SWO lt) {a m i : Nat} (hl : SortedIn lt a m d) (hi : a ≤ i) (him : i ≤ m) (h1 : i = a ∨ lt d[m]! d[i - 1]! = false) (h2 : i = m ∨ lt d[m]! d[i]! = true) (h : ∀ t, d'[t]! = shr d m i t) : SortedIn lt a (m + 1) d' := by
  intro p q hp hpq hq
  rw [h, h]
  unfold shr
  have low : ∀ p, a ≤ p → p < i → lt d[m]! d[p]! = false := fun p hp1 hp2 => by
    rcases h1 with h1 | h1
    · omega
    · by_cases e : p = i - 1
      · rw [e]; exact h1
      · exact hS.ntrans _ _ _ h1 (hl p (i - 1) hp1 (by omega) (by omega))
  have high : ∀ q, i ≤ q → q < m → lt d[q]! d[m]! = false := fun q hq1 hq2 => by
    rcases h2 with h2 | h2
    · omega
    · have h3 : lt d[m]! d[q]! = true := by
        by_cases e : q = i
        · rw [e]; exact h2
        · cases hc : lt d[m]! d[q]! with
          | true => rfl
          | false =>
            have := hS.ntrans _ _ _ hc (hl i q hi (by omega) hq2)
            rw [h2] at this
            cases this
      exact hS.asymmA h3
  by_cases cq : i < q ∧ q ≤ m
  · rw [if_pos cq]
    by_cases cp : i < p ∧ p ≤ m
    · rw [if_pos cp]
      exact hl _ _ (by omega) (by omega) (by omega)
    · rw [if_neg cp]
      by_cases ep : p = i
      · rw [if_pos ep]
        exact high _ (by omega) (by omega)
      · rw [if_neg ep]
        by_cases e : p = q - 1
        · omega
        · exact hl _ _ (by omega) (by omega) (by omega)
  · rw [if_neg cq]
    have hqi : q ≤ i := by omega
    by_cases eq : q = i
    · rw [if_pos eq, if_neg (by omega), if_neg (by omega)]
      exact low p hp (by omega)
    · rw [if_neg eq, if_neg (by omega), if_neg (by omega)]
      exact hl _ _ (by omega) (by omega) (by omega)

structure Halves (lt : α → α → Bool) (a s mid e b : Nat) (d : Array α) : Prop where
  h1 : SortedIn lt a s d
  h2 : SortedIn lt s mid d
  h3 : SortedIn lt mid e d
  h4 : SortedIn lt e b d
  cross : ∀ i j, a ≤ i → i < mid → mid ≤ j → j < b → lt d[j]! d[i]! = false
theorem halves (hS : SWO lt) {a s m e b : Nat} (hl : SortedIn lt a m d) (hr : SortedIn lt m b d) (has : a ≤ s) (hsm : s ≤ m) (hme : m ≤ e) (heb : e ≤ b)
    (c3 : s = a ∨ e = b ∨ lt d[e]! d[s - 1]! = false) (c4 : s = m ∨ e = m ∨ lt d[e - 1]! d[s]! = true) (h : ∀ t, d'[t]! = rot d s m e t) : Halves lt a s (s + (e - m)) e b d' := by
  have g1 : ∀ t, t < s → d'[t]! = d[t]! := fun t ht => by rw [h]; unfold rot; rw [if_neg (by omega), if_neg (by omega)]
  have g2 : ∀ t, s ≤ t → t < s + (e - m) → d'[t]! = d[t + (m - s)]! := fun t h1 h2 => by rw [h]; unfold rot; rw [if_pos (by omega)]
  have g3 : ∀ t, s + (e - m) ≤ t → t < e → d'[t]! = d[t - (e - m)]! := fun t h1 h2 => by rw [h]; unfold rot; rw [if_neg (by omega), if_pos (by omega)]
  have g4 : ∀ t, e ≤ t → d'[t]! = d[t]! := fun t ht => by rw [h]; unfold rot; rw [if_neg (by omega), if_neg (by omega)]
  refine ⟨fun i j hi hij hj => ?_, fun i j hi hij hj => ?_, fun i j hi hij hj => ?_, fun i j hi hij hj => ?_, fun i j hi hij hj hjb => ?_⟩
  · rw [g1 i (by omega), g1 j hj]; exact hl i j hi hij (by omega)
  · rw [g2 i hi (by omega), g2 j (by omega) hj]; exact hr _ _ (by omega) (by omega) (by omega)
  · rw [g3 i hi (by omega), g3 j (by omega) hj]; exact hl _ _ (by omega) (by omega) (by omega)
  · rw [g4 i hi, g4 j (by omega)]; exact hr i j (by omega) hij hj
  · by_cases ci : i < s
    · rw [g1 i ci]
      by_cases cj : j < e
      · rw [g3 j hj cj]
        exact hl _ _ hi (by omega) (by omega)
      · rw [g4 j (by omega)]
        rcases c3 with c3 | c3 | c3
        · omega
        · omega
        · have k1 : lt d[j]! d[e]! = false := by
            by_cases ee : j = e
            · rw [ee]; exact hS.irrefl _
            · exact hr e j hme (by omega) hjb
          have k2 : lt d[s - 1]! d[i]! = false := by
            by_cases ee : i = s - 1
            · rw [ee]; exact hS.irrefl _
            · exact hl i (s - 1) hi (by omega) (by omega)
          exact hS.ntrans _ _ _ k1 (hS.ntrans _ _ _ c3 k2)
    · rw [g2 i (by omega) hij]
      by_cases cj : j < e
      · rw [g3 j hj cj]
        rcases c4 with c4 | c4 | c4
        · omega
        · omega
        · -- what lies left came from the right range: up to e - 1; what lies right from the left one: from s on
          have c5 := hS.asymmA c4
          have k1 : lt d[j - (e - m)]! d[s]! = false := by
            by_cases ee : j - (e - m) = s
            · rw [ee]; exact hS.irrefl _
            · exact hl s _ has (by omega) (by omega)
          have k2 : lt d[e - 1]! d[i + (m - s)]! = false := by
            by_cases ee : i + (m - s) = e - 1
            · rw [ee]; exact hS.irrefl _
            · exact hr _ (e - 1) (by omega) (by omega) (by omega)
          exact hS.ntrans _ _ _ k1 (hS.ntrans _ _ _ c5 k2)
      · rw [g4 j (by omega)]
        exact hr _ _ (by omega) (by omega) hjb

/-- The left half and the right half, each sorted in its place. -/
theorem joined {a mid b : Nat} {d1 d2 d3 : Array α} (ham : a ≤ mid) (hmb : mid ≤ b) (hb : b ≤ d1.size) (hx : ∀ i j, a ≤ i → i < mid → mid ≤ j → j < b → lt d1[j]! d1[i]! = false)
    (p1 : PermIn a mid d1 d2) (s1 : SortedIn lt a mid d2) (p2 : PermIn mid b d2 d3) (s2 : SortedIn lt mid b d3) : SortedIn lt a b d3 := by
  have hs1 := p1.1
  have x1 : ∀ i j, a ≤ i → i < mid → mid ≤ j → j < b → lt d2[j]! d2[i]! = false := fun i j h1 h2 h3 h4 => by
    have := permIn_all d1 d2 a mid (fun x => lt d1[j]! x = false) (by omega) p1 (fun k k1 k2 => hx k j k1 k2 h3 h4) i h1 h2
    rw [p1.2.1 j (.inr h3)]
    exact this
  have x2 : ∀ i j, a ≤ i → i < mid → mid ≤ j → j < b → lt d3[j]! d3[i]! = false := fun i j h1 h2 h3 h4 => by
    have := permIn_all d2 d3 mid b (fun x => lt x d2[i]! = false) (by omega) p2 (fun k k1 k2 => x1 i k h1 h2 k1 k2) j h3 h4
    rw [p2.2.1 i (.inl h2)]
    exact this
  intro i j h1 h2 h3
  by_cases ci : mid ≤ i
  · exact s2 i j ci h2 h3
  · by_cases cj : mid ≤ j
    · exact x2 i j h1 (by omega) cj h3
    · rw [p2.2.1 i (.inl (by omega)), p2.2.1 j (.inl (by omega))]
      exact s1 i j h1 h2 (by omega)
end Go.Srt
namespace Go.Proofs.YtiepbejeiijpmaaDoor
open Go Go.Pe Go.Tab Go.RowKit Go.Sort Go.Proofs Go.Srt

/-- An array that is sorted: what stands fast of it. -/
structure Now (w0 : World) (B : Nat) (m : Mem) (d : Array El) (a b : Nat) (dk : Array El) (w : World) : Prop where
  arr : Arr w0 B dk w
  ok : AllOk m dk
  perm : PermIn a b d dk
theorem Now.size {w0 w : World} {B : Nat} {m : Mem} {d dk : Array El} {a b : Nat} (h : Now w0 B m d a b dk w) : dk.size = d.size := h.perm.1
theorem Now.swap {w0 w : World} {B : Nat} {m : Mem} {d dk : Array El} {a b : Nat} (h : Now w0 B m d a b dk w) (i j : Nat) (hb : b ≤ d.size) (hi : a ≤ i) (hib : i < b) (hj : a ≤ j) (hjb : j < b) :
    Now w0 B m d a b (swp dk i j) ((w.setCell ⟨B, i, none⟩ dk[j]!.1).setCell ⟨B, j, none⟩ dk[i]!.1).drew := by
  have := h.size
  exact ⟨h.arr.swapped i j, h.ok.swp i j (by omega) (by omega), permIn_trans _ _ _ _ _ h.perm (swp_permIn dk a b i j hi hib hj hjb (by omega))⟩
theorem Now.start {w0 w : World} {B : Nat} {m : Mem} {d : Array El} (A : Arr w0 B d w) (O : AllOk m d) (a b : Nat) : Now w0 B m d a b d w := ⟨A, O, permIn_refl d a b⟩
theorem Now.grown {w0 w w' : World} {B : Nat} {m : Mem} {d dk : Array El} {a b : Nat} (h : Now w0 B m d a b dk w) (hb : Below w.heap.size w w') : Now w0 B m d a b dk w' := ⟨h.arr.grown hb, h.ok, h.perm⟩
theorem Now.drew {w0 w : World} {B : Nat} {m : Mem} {d dk : Array El} {a b : Nat} (h : Now w0 B m d a b dk w) : Now w0 B m d a b dk w.drew := ⟨h.arr.drew, h.ok, h.perm⟩

set_option maxHeartbeats 16000000 in
set_option maxRecDepth 1000000 in
theorem swapRange_walk {w0 w : World} {B : Nat} {m : Mem} {d : Array El} (A : Arr w0 B d w) (O : AllOk m d) (cap a b n : Nat) (hab : a + n ≤ b) (hb : b + n ≤ d.size) (hsz : d.size < 4611686018427387904) :
    Calls Tryd.prog 116 #[.slice (some ⟨B, 0, none⟩) d.size cap, .int .i64 a, .int .i64 b, .int .i64 n, .func (.func 40) #[] #[]] w fun e w' => e = .returned (.tuple #[]) ∧ ∃ d', Now w0 B m d a (b + n) d' w' ∧ ∀ t, d'[t]! = swr d a b n t := by
  have mixed : Tryd.prog.follows .mixedOrders = true := mixed
  have S0 : Aside (Now w0 B m d a (b + n) d w ∧ ∀ t, d[t]! = swr d a b 0 t) := ⟨Now.start A O _ _, swr_zero a b⟩
  clear A O
  go_enter Tryd.func116, Tryd.ntmps116
  go_wp2
  go_loopg [10] n (fun g v wr => ∃ (k : Nat) (dk : Array El), v = .int .i64 k ∧ k ≤ n ∧ n - k ≤ g ∧ Aside (Now w0 B m d a (b + n) dk wr ∧ ∀ t, dk[t]! = swr d a b k t))
  case atStart => exact ⟨0, d, by go_num, by omega, by omega, S0⟩
  case round =>
    clear S0
    obtain ⟨k, dk, rfl, hk, hg, S1⟩ := hrel
    by_cases hlt : k < n
    · have hltz : (k : Int) < (n : Int) := by omega
      have hsk := S1.out.1.size
      obtain ⟨i, hi⟩ : ∃ i, i = a + k := ⟨_, rfl⟩
      obtain ⟨j, hj⟩ : ∃ j, j = b + k := ⟨_, rfl⟩
      have ea : ((a : Int) + (k : Int)).toNat = i := by omega
      have pa : (0 : Int) ≤ (a : Int) + (k : Int) := by omega
      have ba : (a : Int) + (k : Int) < (d.size : Int) := by omega
      have ra : IntKind.i64.wrap ((a : Int) + (k : Int)) = (a : Int) + (k : Int) := by rw [IntKind.wrap_i64]; omega
      have eb : ((b : Int) + (k : Int)).toNat = j := by omega
      have pb : (0 : Int) ≤ (b : Int) + (k : Int) := by omega
      have bb : (b : Int) + (k : Int) < (d.size : Int) := by omega
      have rb : IntKind.i64.wrap ((b : Int) + (k : Int)) = (b : Int) + (k : Int) := by rw [IntKind.wrap_i64]; omega
      have rk : IntKind.i64.wrap ((k : Int) + 1) = (k : Int) + 1 := by rw [IntKind.wrap_i64]; omega
      obtain ⟨xa, xn, xc, xr, hx⟩ := (S1.out.1.ok i (by omega)).slice
      obtain ⟨ya, yn, yc, yr, hy⟩ := (S1.out.1.ok j (by omega)).slice
      have c1a := S1.out.1.arr.c1 i (by omega)
      have c1b := S1.out.1.arr.c1 j (by omega)
      have f1a := S1.out.1.arr.f1 i
      have f1b := S1.out.1.arr.f1 j
      obtain ⟨u, c1c⟩ := S1.out.1.arr.c2 i j (by omega) dk[j]!
      have S3 : Aside (Now w0 B m d a (b + n) (swp dk i j) ((wr.setCell ⟨B, i, none⟩ (.slice ya yn yc)).setCell ⟨B, j, none⟩ (.slice xa xn xc)).drew ∧ ∀ t, (swp dk i j)[t]! = swr d a b (k + 1) t) := by
        have h1 := S1.out.1.swap i j hb (by omega) (by omega) (by omega) (by omega)
        rw [hx, hy] at h1
        refine ⟨h1, ?_⟩
        rw [hi, hj]
        exact swr_step hsk S1.out.2 hlt hab hb
      rw [hx] at c1a
      rw [hy] at c1b c1c
      simp only at c1a c1b c1c
      clear hx hy S1 hi hj
      go_wp2_with fail
      go_big_region_o
      clear c1a c1b c1c f1a f1b
      generalize ((wr.setCell ⟨B, i, none⟩ (.slice ya yn yc)).setCell ⟨B, j, none⟩ (.slice xa xn xc)).drew = w3 at S3 ⊢
      go_wp2
      go_roundg (n - (k + 1))
      case measure => omega
      case rel => exact ⟨k + 1, swp dk i j, by go_num, by omega, by omega, S3⟩
    · obtain rfl : k = n := by omega
      have hltz : ¬ (k : Int) < (k : Int) := by omega
      go_wp2
      go_end0
      exact ⟨rfl, _, S1.out⟩

theorem Now.then {w0 w w' : World} {B : Nat} {m : Mem} {d dk d' : Array El} {a b a' b' : Nat} (h : Now w0 B m d a b dk w) (h' : Now w0 B m dk a' b' d' w') (ha : a ≤ a') (hb : b' ≤ b) (hbs : b ≤ d.size) : Now w0 B m d a b d' w' :=
  ⟨h'.arr, h'.ok, permIn_trans _ _ _ _ _ h.perm (permIn_mono dk d' a' b' a b ha hb (by have := h.size; omega) h'.perm)⟩
set_option maxHeartbeats 16000000 in
set_option maxRecDepth 1000000 in
theorem rotate_walk {w0 w : World} {B : Nat} {m : Mem} {d : Array El} (A : Arr w0 B d w) (O : AllOk m d) (cap a c b : Nat) (hac : a < c) (hcb : c < b) (hb : b ≤ d.size) (hsz : d.size < 4611686018427387904) :
    Calls Tryd.prog 105 #[.slice (some ⟨B, 0, none⟩) d.size cap, .int .i64 a, .int .i64 c, .int .i64 b, .func (.func 40) #[] #[]] w fun e w' => e = .returned (.tuple #[]) ∧ ∃ d', Now w0 B m d a b d' w' ∧ ∀ t, d'[t]! = rot d a c b t := by
  have mixed : Tryd.prog.follows .mixedOrders = true := mixed
  have S0 : Aside (Now w0 B m d a b d w ∧ ∀ t, rot d (c - (c - a)) c (c + (b - c)) t = rot d a c b t) := ⟨Now.start A O _ _, fun t => by
    have e1 : c - (c - a) = a := by omega
    have e2 : c + (b - c) = b := by omega
    rw [e1, e2]⟩
  clear A O
  have r1 : IntKind.i64.wrap ((c : Int) - (a : Int)) = (c : Int) - (a : Int) := by rw [IntKind.wrap_i64]; omega
  have r2 : IntKind.i64.wrap ((b : Int) - (c : Int)) = (b : Int) - (c : Int) := by rw [IntKind.wrap_i64]; omega
  go_enter Tryd.func105, Tryd.ntmps105
  go_wp2
  go_loopg [10, 11] (b - a) (fun g v v' wr => ∃ (i j : Nat) (dk : Array El), v = .int .i64 i ∧ v' = .int .i64 j ∧ 0 < i ∧ 0 < j ∧ i ≤ c - a ∧ j ≤ b - c ∧ i + j ≤ g ∧ Aside (Now w0 B m d a b dk wr ∧ ∀ t, rot dk (c - i) c (c + j) t = rot d a c b t))
  case atStart => exact ⟨c - a, b - c, d, by congr 1; omega, by congr 1; omega, by omega, by omega, by omega, by omega, by omega, S0⟩
  case round =>
    clear S0
    obtain ⟨i, j, dk, rfl, rfl, hi0, hj0, hi, hj, hg, S1⟩ := hrel
    have hsk := S1.out.1.size
    have e1 : ((c - i : Nat) : Int) = (c : Int) - (i : Int) := by omega
    have ri : IntKind.i64.wrap ((c : Int) - (i : Int)) = (c : Int) - (i : Int) := by rw [IntKind.wrap_i64]; omega
    rcases Nat.lt_trichotomy i j with hij | hij | hij
    · -- the right one is the longer one
      have hne : ¬ (i : Int) = (j : Int) := by omega
      have hgt : ¬ (j : Int) < (i : Int) := by omega
      have hc := swapRange_walk S1.out.1.arr S1.out.1.ok cap (c - i) (c + j - i) i (by omega) (by omega) (by omega)
      have e2 : ((c + j - i : Nat) : Int) = (c : Int) + (j : Int) - (i : Int) := by omega
      have rj : IntKind.i64.wrap ((c : Int) + (j : Int)) = (c : Int) + (j : Int) := by rw [IntKind.wrap_i64]; omega
      have rj2 : IntKind.i64.wrap ((c : Int) + (j : Int) - (i : Int)) = (c : Int) + (j : Int) - (i : Int) := by rw [IntKind.wrap_i64]; omega
      have rn : IntKind.i64.wrap ((j : Int) - (i : Int)) = (j : Int) - (i : Int) := by rw [IntKind.wrap_i64]; omega
      rw [e1, e2, hsk] at hc
      go_wp2_with (go_at_call 116; refine hc.mono ?_)
      clear hc
      rintro e w2 rfl d2 hN hsw
      have S2 : Aside (Now w0 B m d a b d2 w2 ∧ ∀ t, rot d2 (c - i) c (c + (j - i)) t = rot d a c b t) := ⟨S1.out.1.then hN (by omega) (by omega) hb, fun t => (rot_lt (by omega) hij hsw t).trans (S1.out.2 t)⟩
      clear hN hsw S1
      go_wp2
      go_roundg (i + (j - i))
      case measure => omega
      case rel => exact ⟨i, j - i, d2, rfl, by congr 1; omega, hi0, by omega, hi, by omega, by omega, S2⟩
    · subst hij
      have hc := swapRange_walk S1.out.1.arr S1.out.1.ok cap (c - i) c i (by omega) (by omega) (by omega)
      rw [e1, hsk] at hc
      go_wp2_with (go_at_call 116; refine hc.mono ?_)
      clear hc
      rintro e w2 ⟨rfl, d2, hN, hsw⟩
      have S2 : Aside (Now w0 B m d a b d2 w2 ∧ ∀ t, d2[t]! = rot d a c b t) := ⟨S1.out.1.then hN (by omega) (by omega) hb, fun t => (rot_eq (by omega) hsw t).trans (S1.out.2 t)⟩
      clear hN hsw S1
      go_wp2
      go_end0
      exact ⟨rfl, _, S2.out⟩
    · have hne : ¬ (i : Int) = (j : Int) := by omega
      have hgt : (j : Int) < (i : Int) := by omega
      have hc := swapRange_walk S1.out.1.arr S1.out.1.ok cap (c - i) c j (by omega) (by omega) (by omega)
      have rn : IntKind.i64.wrap ((i : Int) - (j : Int)) = (i : Int) - (j : Int) := by rw [IntKind.wrap_i64]; omega
      rw [e1, hsk] at hc
      go_wp2_with (go_at_call 116; refine hc.mono ?_)
      clear hc
      rintro e w2 ⟨rfl, d2, hN, hsw⟩
      have S2 : Aside (Now w0 B m d a b d2 w2 ∧ ∀ t, rot d2 (c - (i - j)) c (c + j) t = rot d a c b t) := ⟨S1.out.1.then hN (by omega) (by omega) hb, fun t => (rot_gt (by omega) hij hsw t).trans (S1.out.2 t)⟩
      clear hN hsw S1
      go_wp2
      go_roundg (i - j + j)
      case measure => omega
      case rel => exact ⟨i - j, j, d2, by congr 1; omega, rfl, by omega, hj0, by omega, hj, by omega, S2⟩
end Go.Proofs.YtiepbejeiijpmaaDoor
namespace Go.Proofs.YtiepbejeiijpmaaDoor
open Go Go.Pe Go.Tab Go.RowKit Go.Sort Go.Proofs Go.Srt

theorem ltE_true {x y : El} (h : ltE x y = true) : ords x.2 y.2 < 0 := of_decide_eq_true h
theorem ltE_false {x y : El} (h : ltE x y = false) : ¬ ords x.2 y.2 < 0 := of_decide_eq_false h
/-- Asking which of two rows comes first, in a world of the class. -/
theorem ask {w0 w : World} {B : Nat} {m : Mem} {d dk : Array El} {a b : Nat} (K : At w0 B m) (h : Now w0 B m d a b dk w) (i j : Nat) (hi : i < dk.size) (hj : j < dk.size) (q : Nat) (os : Array Obj) :
    Calls Tryd.prog 40 #[dk[i]!.1, dk[j]!.1] (grow (redrawn w q) os) fun e w'' => e = .returned (.int .i64 (ords dk[i]!.2 dk[j]!.2)) ∧ ∃ p : Regrown, w'' = grow (redrawn w p.d) p.os :=
  Calls.regrown_of ((h.arr.grown (below_regrown w q os)).cmp K (h.ok i hi) (h.ok j hj))

set_option maxHeartbeats 16000000 in
set_option maxRecDepth 1000000 in
theorem mergeLeft_walk {w0 w : World} {B : Nat} {m : Mem} {d : Array El} (K : At w0 B m) (A : Arr w0 B d w) (O : AllOk m d) (cap a b : Nat) (hab : a + 1 < b) (hb : b ≤ d.size) (hsz : d.size < 4611686018427387904) (hr : SortedIn ltE (a + 1) b d) :
    Calls Tryd.prog 97 #[.slice (some ⟨B, 0, none⟩) d.size cap, .int .i64 a, .int .i64 ((a : Int) + 1), .int .i64 b, .func (.func 40) #[] #[]] w fun e w' => e = .returned (.tuple #[]) ∧ ∃ d', Now w0 B m d a b d' w' ∧ SortedIn ltE a b d' := by
  have mixed : Tryd.prog.follows .mixedOrders = true := mixed
  have e40 : ∀ args w, (callFunc 40 args).run Tryd.prog w = .ok (.enter 40 args) w := enters_of Tryd.func40 (by kernel_rfl) rfl
  have S0 : Aside (Now w0 B m d a b d w) := Now.start A O _ _
  have HK : Aside _ := K
  have HR : Aside _ := hr
  clear A O K hr
  have r0 : IntKind.i64.wrap ((a : Int) + 1 - (a : Int)) = 1 := by rw [IntKind.wrap_i64]; omega
  go_enter Tryd.func97, Tryd.ntmps97
  go_wp2
  go_loopg [10, 11] (b - a) (fun g v v' wr => ∃ i j : Nat, v = .int .i64 i ∧ v' = .int .i64 j ∧ a + 1 ≤ i ∧ i ≤ j ∧ j ≤ b ∧ j - i ≤ g ∧ Aside (Now w0 B m d a b d wr ∧ (i = a + 1 ∨ ltE d[i - 1]! d[a]! = true) ∧ (j = b ∨ ltE d[j]! d[a]! = false)))
  case atStart => exact ⟨a + 1, b, by go_num, rfl, by omega, by omega, by omega, by omega, S0, .inl rfl, .inl rfl⟩
  case round =>
    clear S0
    obtain ⟨i, j, rfl, rfl, hai, hij, hjb, hg, S1⟩ := hrel
    by_cases hlt : i < j
    · have hltz : (i : Int) < (j : Int) := by omega
      have c1 := ask HK.out S1.out.1 ((i + j) / 2) a (by omega) (by omega)
      have k1 := cell_regrown (S1.out.1.arr.c1 ((i + j) / 2) (by omega))
      have k2 := cell_regrown (S1.out.1.arr.c1 a (by omega))
      obtain ⟨xa, xn, xc, xr, hx⟩ := (S1.out.1.ok ((i + j) / 2) (by omega)).slice
      obtain ⟨ya, yn, yc, yr, hy⟩ := (S1.out.1.ok a (by omega)).slice
      have bh : (i + j) / 2 < d.size := by omega
      have bhz : ((i : Int) + (j : Int)) / 2 < (d.size : Int) := by omega
      have baz : (a : Int) < (d.size : Int) := by omega
      have eh : (((i : Int) + (j : Int)) / 2).toNat = (i + j) / 2 := by omega
      have ph : (0 : Int) ≤ ((i : Int) + (j : Int)) / 2 := by omega
      have eaz : ((a : Int)).toNat = a := by omega
      have paz : (0 : Int) ≤ (a : Int) := by omega
      have rh1 : IntKind.i64.wrap (((i : Int) + (j : Int)) / 2 + 1) = ((i : Int) + (j : Int)) / 2 + 1 := by rw [IntKind.wrap_i64]; omega
      have rs : IntKind.i64.wrap ((i : Int) + (j : Int)) = (i : Int) + (j : Int) := by rw [IntKind.wrap_i64]; omega
      cases hlv : ltE d[(i + j) / 2]! d[a]! with
      | true =>
        have hv := ltE_true hlv
        rw [hx, hy] at c1 hv
        rw [hx] at k1
        rw [hy] at k2
        simp only at c1 k1 k2 hv
        have HL : Aside _ := hlv
        clear hx hy hlv
        go_wp2_with fail
        refine wp_region_quiet_below (by assumption) (by kernel_rfl) ?_
        repeat (quiet_step (first | (go_at_fn 40; exact c1 _ _)))
        refine wpQuiet_nil ?_
        intro _ hw'
        obtain ⟨⟨dq, osq⟩, hw''⟩ := hw'
        subst hw''
        clear k1 k2 c1
        have S2 : Aside (Now w0 B m d a b d (grow (redrawn wr dq) osq) ∧ ((i + j) / 2 + 1 = a + 1 ∨ ltE d[(i + j) / 2 + 1 - 1]! d[a]! = true) ∧ (j = b ∨ ltE d[j]! d[a]! = false)) := ⟨S1.out.1.grown (below_regrown wr dq osq), .inr (by rw [Nat.add_sub_cancel]; exact HL.out), S1.out.2.2⟩
        clear S1 HL
        generalize grow (redrawn wr dq) osq = w2 at S2 ⊢
        clear dq osq
        go_wp2
        go_roundg (j - ((i + j) / 2 + 1))
        case measure => omega
        case rel => exact ⟨(i + j) / 2 + 1, j, by congr 1 <;> omega, rfl, by omega, by omega, hjb, by omega, S2⟩
      | false =>
        have hv := ltE_false hlv
        rw [hx, hy] at c1 hv
        rw [hx] at k1
        rw [hy] at k2
        simp only at c1 k1 k2 hv
        have HL : Aside _ := hlv
        clear hx hy hlv
        go_wp2_with fail
        refine wp_region_quiet_below (by assumption) (by kernel_rfl) ?_
        repeat (quiet_step (first | (go_at_fn 40; exact c1 _ _)))
        refine wpQuiet_nil ?_
        intro _ hw'
        obtain ⟨⟨dq, osq⟩, hw''⟩ := hw'
        subst hw''
        clear k1 k2 c1
        have S2 : Aside (Now w0 B m d a b d (grow (redrawn wr dq) osq) ∧ (i = a + 1 ∨ ltE d[i - 1]! d[a]! = true) ∧ ((i + j) / 2 = b ∨ ltE d[(i + j) / 2]! d[a]! = false)) := ⟨S1.out.1.grown (below_regrown wr dq osq), S1.out.2.1, .inr HL.out⟩
        clear S1 HL
        generalize grow (redrawn wr dq) osq = w2 at S2 ⊢
        clear dq osq
        go_wp2
        go_roundg ((i + j) / 2 - i)
        case measure => omega
        case rel => exact ⟨i, (i + j) / 2, rfl, by congr 1 <;> omega, hai, by omega, by omega, by omega, S2⟩
    · obtain rfl : i = j := by omega
      have hltz : ¬ (i : Int) < (i : Int) := by omega
      have ri : IntKind.i64.wrap ((i : Int) - 1) = (i : Int) - 1 := by rw [IntKind.wrap_i64]; omega
      have S2 : Aside (Now w0 B m d a b d wr ∧ ∀ t, d[t]! = shl d a a t) := ⟨S1.out.1, shl_zero a⟩
      have HS : Aside _ := S1.out.2
      clear S1
      go_wp2
      go_loopg [13] (i - 1 - a) (fun g v wr => ∃ (k : Nat) (dk : Array El), v = .int .i64 k ∧ a ≤ k ∧ k ≤ i - 1 ∧ i - 1 - k ≤ g ∧ Aside (Now w0 B m d a b dk wr ∧ ∀ t, dk[t]! = shl d a k t))
      case atStart => exact ⟨a, d, rfl, by omega, by omega, by omega, S2⟩
      case round =>
        clear S2
        obtain ⟨k, dk, rfl, hak, hki, hg2, S3⟩ := hrel
        have hsk := S3.out.1.size
        by_cases hlt2 : k < i - 1
        · have hltz2 : (k : Int) < (i : Int) - 1 := by omega
          obtain ⟨p, hp⟩ : ∃ p, p = k + 1 := ⟨_, rfl⟩
          have ek : ((k : Int)).toNat = k := by omega
          have pk : (0 : Int) ≤ (k : Int) := by omega
          have bk : (k : Int) < (d.size : Int) := by omega
          have ep : ((k : Int) + 1).toNat = p := by omega
          have pp : (0 : Int) ≤ (k : Int) + 1 := by omega
          have bp : (k : Int) + 1 < (d.size : Int) := by omega
          have rp : IntKind.i64.wrap ((k : Int) + 1) = (k : Int) + 1 := by rw [IntKind.wrap_i64]; omega
          obtain ⟨xa, xn, xc, xr, hx⟩ := (S3.out.1.ok k (by omega)).slice
          obtain ⟨ya, yn, yc, yr, hy⟩ := (S3.out.1.ok p (by omega)).slice
          have c1a := S3.out.1.arr.c1 k (by omega)
          have c1b := S3.out.1.arr.c1 p (by omega)
          have f1a := S3.out.1.arr.f1 k
          have f1b := S3.out.1.arr.f1 p
          obtain ⟨u, c1c⟩ := S3.out.1.arr.c2 k p (by omega) dk[p]!
          have S4 : Aside (Now w0 B m d a b (swp dk k p) ((wr.setCell ⟨B, k, none⟩ (.slice ya yn yc)).setCell ⟨B, p, none⟩ (.slice xa xn xc)).drew ∧ ∀ t, (swp dk k p)[t]! = shl d a (k + 1) t) := by
            have h1 := S3.out.1.swap k p hb (by omega) (by omega) (by omega) (by omega)
            rw [hx, hy] at h1
            refine ⟨h1, ?_⟩
            rw [hp]
            exact shl_step hsk S3.out.2 hak (by omega)
          rw [hx] at c1a
          rw [hy] at c1b c1c
          simp only at c1a c1b c1c
          clear hx hy S3 hp
          go_wp2_with fail
          go_big_region_o
          clear c1a c1b c1c f1a f1b
          generalize ((wr.setCell ⟨B, k, none⟩ (.slice ya yn yc)).setCell ⟨B, p, none⟩ (.slice xa xn xc)).drew = w3 at S4 ⊢
          go_wp2
          go_roundg (i - 1 - (k + 1))
          case measure => omega
          case rel => exact ⟨k + 1, swp dk k p, by go_num, by omega, by omega, by omega, S4⟩
        · obtain rfl : k = i - 1 := by omega
          have hltz2 : ¬ ((i - 1 : Nat) : Int) < (i : Int) - 1 := by omega
          go_wp2
          (try simp only [Exit.inBlock, Exit.then])
          refine bodyPost_ret (results_none rfl _ _ _) rfl ?_
          exact ⟨rfl, dk, S3.out.1, merge_left ltE_swo HR.out hai hjb HS.out.1 HS.out.2 S3.out.2⟩

set_option maxHeartbeats 16000000 in
set_option maxRecDepth 1000000 in
theorem mergeRight_walk {w0 w : World} {B : Nat} {m : Mem} {d : Array El} (K : At w0 B m) (A : Arr w0 B d w) (O : AllOk m d) (cap a c : Nat) (hac : a + 1 < c) (hb : c + 1 ≤ d.size) (hsz : d.size < 4611686018427387904) (hl : SortedIn ltE a c d) :
    Calls Tryd.prog 97 #[.slice (some ⟨B, 0, none⟩) d.size cap, .int .i64 a, .int .i64 c, .int .i64 ((c : Int) + 1), .func (.func 40) #[] #[]] w fun e w' => e = .returned (.tuple #[]) ∧ ∃ d', Now w0 B m d a (c + 1) d' w' ∧ SortedIn ltE a (c + 1) d' := by
  have mixed : Tryd.prog.follows .mixedOrders = true := mixed
  have e40 : ∀ args w, (callFunc 40 args).run Tryd.prog w = .ok (.enter 40 args) w := enters_of Tryd.func40 (by kernel_rfl) rfl
  have S0 : Aside (Now w0 B m d a (c + 1) d w) := Now.start A O _ _
  have HK : Aside _ := K
  have HL0 : Aside _ := hl
  clear A O K hl
  have r0 : IntKind.i64.wrap ((c : Int) - (a : Int)) = (c : Int) - (a : Int) := by rw [IntKind.wrap_i64]; omega
  have n0 : ¬ (c : Int) - (a : Int) = 1 := by omega
  have nb : ((c : Int) - (a : Int) == 1) = false := beq_eq_false_iff_ne.2 n0
  have r1 : IntKind.i64.wrap ((c : Int) + 1 - (c : Int)) = 1 := by rw [IntKind.wrap_i64]; omega
  go_enter Tryd.func97, Tryd.ntmps97
  go_wp2
  go_loopg [14, 15] (c - a) (fun g v v' wr => ∃ i j : Nat, v = .int .i64 i ∧ v' = .int .i64 j ∧ a ≤ i ∧ i ≤ j ∧ j ≤ c ∧ j - i ≤ g ∧ Aside (Now w0 B m d a (c + 1) d wr ∧ (i = a ∨ ltE d[c]! d[i - 1]! = false) ∧ (j = c ∨ ltE d[c]! d[j]! = true)))
  case atStart => exact ⟨a, c, rfl, rfl, by omega, by omega, by omega, by omega, S0, .inl rfl, .inl rfl⟩
  case round =>
    clear S0
    obtain ⟨i, j, rfl, rfl, hai, hij, hjb, hg, S1⟩ := hrel
    by_cases hlt : i < j
    · have hltz : (i : Int) < (j : Int) := by omega
      have c1 := ask HK.out S1.out.1 c ((i + j) / 2) (by omega) (by omega)
      have k1 := cell_regrown (S1.out.1.arr.c1 c (by omega))
      have k2 := cell_regrown (S1.out.1.arr.c1 ((i + j) / 2) (by omega))
      obtain ⟨xa, xn, xc, xr, hx⟩ := (S1.out.1.ok c (by omega)).slice
      obtain ⟨ya, yn, yc, yr, hy⟩ := (S1.out.1.ok ((i + j) / 2) (by omega)).slice
      have bhz : ((i : Int) + (j : Int)) / 2 < (d.size : Int) := by omega
      have bcz : (c : Int) < (d.size : Int) := by omega
      have eh : (((i : Int) + (j : Int)) / 2).toNat = (i + j) / 2 := by omega
      have ph : (0 : Int) ≤ ((i : Int) + (j : Int)) / 2 := by omega
      have ecz : ((c : Int)).toNat = c := by omega
      have pcz : (0 : Int) ≤ (c : Int) := by omega
      have rh1 : IntKind.i64.wrap (((i : Int) + (j : Int)) / 2 + 1) = ((i : Int) + (j : Int)) / 2 + 1 := by rw [IntKind.wrap_i64]; omega
      have rs : IntKind.i64.wrap ((i : Int) + (j : Int)) = (i : Int) + (j : Int) := by rw [IntKind.wrap_i64]; omega
      cases hlv : ltE d[c]! d[(i + j) / 2]! with
      | true =>
        have hv := ltE_true hlv
        rw [hx, hy] at c1 hv
        rw [hx] at k1
        rw [hy] at k2
        simp only at c1 k1 k2 hv
        have hd : decide (ords xr yr < 0) = true := decide_eq_true hv
        have HL : Aside _ := hlv
        clear hx hy hlv
        go_wp2_with fail
        refine wp_region_quiet_below (by assumption) (by kernel_rfl) ?_
        repeat (quiet_step (first | (go_at_fn 40; exact c1 _ _)))
        refine wpQuiet_nil ?_
        intro _ hw'
        obtain ⟨⟨dq, osq⟩, hw''⟩ := hw'
        subst hw''
        clear k1 k2 c1
        have S2 : Aside (Now w0 B m d a (c + 1) d (grow (redrawn wr dq) osq) ∧ (i = a ∨ ltE d[c]! d[i - 1]! = false) ∧ ((i + j) / 2 = c ∨ ltE d[c]! d[(i + j) / 2]! = true)) := ⟨S1.out.1.grown (below_regrown wr dq osq), S1.out.2.1, .inr HL.out⟩
        clear S1 HL
        generalize grow (redrawn wr dq) osq = w2 at S2 ⊢
        clear dq osq
        go_wp2
        go_roundg ((i + j) / 2 - i)
        case measure => omega
        case rel => exact ⟨i, (i + j) / 2, rfl, by congr 1 <;> omega, hai, by omega, by omega, by omega, S2⟩
      | false =>
        have hv := ltE_false hlv
        rw [hx, hy] at c1 hv
        rw [hx] at k1
        rw [hy] at k2
        simp only at c1 k1 k2 hv
        have hd : decide (ords xr yr < 0) = false := decide_eq_false hv
        have HL : Aside _ := hlv
        clear hx hy hlv
        go_wp2_with fail
        refine wp_region_quiet_below (by assumption) (by kernel_rfl) ?_
        repeat (quiet_step (first | (go_at_fn 40; exact c1 _ _)))
        refine wpQuiet_nil ?_
        intro _ hw'
        obtain ⟨⟨dq, osq⟩, hw''⟩ := hw'
        subst hw''
        clear k1 k2 c1
        have S2 : Aside (Now w0 B m d a (c + 1) d (grow (redrawn wr dq) osq) ∧ ((i + j) / 2 + 1 = a ∨ ltE d[c]! d[(i + j) / 2 + 1 - 1]! = false) ∧ (j = c ∨ ltE d[c]! d[j]! = true)) := ⟨S1.out.1.grown (below_regrown wr dq osq), .inr (by rw [Nat.add_sub_cancel]; exact HL.out), S1.out.2.2⟩
        clear S1 HL
        generalize grow (redrawn wr dq) osq = w2 at S2 ⊢
        clear dq osq
        go_wp2
        go_roundg (j - ((i + j) / 2 + 1))
        case measure => omega
        case rel => exact ⟨(i + j) / 2 + 1, j, by congr 1 <;> omega, rfl, by omega, by omega, hjb, by omega, S2⟩
    · obtain rfl : i = j := by omega
      have hltz : ¬ (i : Int) < (i : Int) := by omega
      have S2 : Aside (Now w0 B m d a (c + 1) d wr ∧ ∀ t, d[t]! = shr d c c t) := ⟨S1.out.1, shr_zero c⟩
      have HS : Aside _ := S1.out.2
      clear S1
      go_wp2
      go_loopg [17] (c - i) (fun g v wr => ∃ (k : Nat) (dk : Array El), v = .int .i64 k ∧ i ≤ k ∧ k ≤ c ∧ k - i ≤ g ∧ Aside (Now w0 B m d a (c + 1) dk wr ∧ ∀ t, dk[t]! = shr d c k t))
      case atStart => exact ⟨c, d, rfl, by omega, by omega, by omega, S2⟩
      case round =>
        clear S2
        obtain ⟨k, dk, rfl, hik, hkc, hg2, S3⟩ := hrel
        have hsk := S3.out.1.size
        by_cases hlt2 : i < k
        · have hltz2 : (i : Int) < (k : Int) := by omega
          obtain ⟨p, hp⟩ : ∃ p, p + 1 = k := ⟨k - 1, by omega⟩
          have zk : (k : Int) = (p : Int) + 1 := by omega
          have ek : ((k : Int)).toNat = k := by omega
          have pk : (0 : Int) ≤ (k : Int) := by omega
          have bk : (k : Int) < (d.size : Int) := by omega
          have ep : ((k : Int) - 1).toNat = p := by omega
          have pp : (0 : Int) ≤ (k : Int) - 1 := by omega
          have bp : (k : Int) - 1 < (d.size : Int) := by omega
          have rp : IntKind.i64.wrap ((k : Int) - 1) = (k : Int) - 1 := by rw [IntKind.wrap_i64]; omega
          obtain ⟨xa, xn, xc, xr, hx⟩ := (S3.out.1.ok k (by omega)).slice
          obtain ⟨ya, yn, yc, yr, hy⟩ := (S3.out.1.ok p (by omega)).slice
          have c1a := S3.out.1.arr.c1 k (by omega)
          have c1b := S3.out.1.arr.c1 p (by omega)
          have f1a := S3.out.1.arr.f1 k
          have f1b := S3.out.1.arr.f1 p
          obtain ⟨u, c1c⟩ := S3.out.1.arr.c2 k p (by omega) dk[p]!
          have S4 : Aside (Now w0 B m d a (c + 1) (swp dk k p) ((wr.setCell ⟨B, k, none⟩ (.slice ya yn yc)).setCell ⟨B, p, none⟩ (.slice xa xn xc)).drew ∧ ∀ t, (swp dk k p)[t]! = shr d c p t) := by
            have h1 := S3.out.1.swap k p hb (by omega) (by omega) (by omega) (by omega)
            rw [hx, hy] at h1
            refine ⟨h1, ?_⟩
            have h2 := S3.out.2
            rw [← hp] at h2 ⊢
            exact shr_step hsk h2 (by omega) (by omega)
          rw [hx] at c1a
          rw [hy] at c1b c1c
          simp only at c1a c1b c1c
          have HP : Aside _ := hp
          have HZ : Aside _ := zk
          clear hx hy S3 hp zk
          go_wp2_with fail
          go_big_region_o
          clear c1a c1b c1c f1a f1b
          generalize ((wr.setCell ⟨B, k, none⟩ (.slice ya yn yc)).setCell ⟨B, p, none⟩ (.slice xa xn xc)).drew = w3 at S4 ⊢
          go_wp2
          go_roundg (k - 1 - i)
          case measure => omega
          case rel => exact ⟨p, swp dk k p, by have := HZ.out; congr 1; omega, by have := HP.out; omega, by have := HP.out; omega, by have := HP.out; omega, S4⟩
        · obtain rfl : k = i := by omega
          have hltz2 : ¬ (k : Int) < (k : Int) := by omega
          go_wp2
          (try simp only [Exit.inBlock, Exit.then])
          refine bodyPost_ret (results_none rfl _ _ _) rfl ?_
          exact ⟨rfl, dk, S3.out.1, merge_right ltE_swo HL0.out hai hjb HS.out.1 HS.out.2 S3.out.2⟩
end Go.Proofs.YtiepbejeiijpmaaDoor

/-
  An abstract machine for Go code over plain data: what makes memory: slice literals, append, calls. Conditions: none.
-/
import Derived.Test.YtiepbejeiijpmaaDoorPe6
namespace Go.Pe
open Go.RowKit

def retOf (us : List Value) : Value := match us with
  | [u] => u
  | us => .tuple us.toArray

/-- How a call ends. -/
def EndsAs (pan : Bool) (us : List Value) (e : Ending) : Prop := match pan with
  | false => e = .returned (retOf us)
  | true => ∃ u, us = [u] ∧ e = .panicked [{ v := u, recovered := false }]

/-- The blocks that a call may write on: those of the objects and of the rights that it is given. -/
def Given (k : Know) (ow : Own) (b : Nat) : Prop := (∃ r, k.μ r = some b) ∨ ∃ t v e z n, ow t = some (v, e, z, n) ∧ v.ownBlock = some b

/-- A contract: in whatever memory that stands for what is given, the call ends as the answer says, in memory that stands for it. -/
def Sound (P : Program) (G : GP) (f : Nat) (xs : List X) (obs : List Ob) (an : An) : Prop :=
  ∀ fn, P.funcs[f]? = some fn → ∀ (k : Know) (ow : Own) (w : World) (vs : List Value), Hp ⟨G, k.m, Given k ow⟩ k ow w w obs →
    (∀ t p, ow t = some p → t.older 1 fun _ => False) → (∀ r off p, ow (.cell r off) = some p → r < obs.length) → RepXs k ow xs vs →
    Calls P f vs.toArray w fun e w' => ∃ k' ow' us, EndsAs an.pan us e ∧ Hp ⟨G, k.m, Given k ow⟩ k' ow' w w' an.obs ∧ k.m.le k'.m ∧ obs.length ≤ an.obs.length ∧ (∀ r, r < obs.length → k'.μ r = k.μ r) ∧
      (∀ t p, ow' t = some p → t.older 1 fun _ => False) ∧ (∀ r off p, ow' (.cell r off) = some p → r < an.obs.length) ∧ RepXs k' ow' an.rs us

section
variable {P : Program} {M0 : Base} {k : Know} {ow : Own} {done : Nat → Prop} {w0 w : World} {N : Nat} {s : S} {tmps : Array Value}

theorem buildSlice_sound (hs : Sim M0 k ow done w0 w N s tmps) {t e n : Nat} {d : TD} {qs : List (Nat × List X)} {ps : Array (Nat × Value)} {xs : List X} {cs : List C} {c ix i : Nat}
    (he : elemOf (TT.of P) t = some (e, d)) (hn : n * d.size ≤ 16777216) (hz : 0 < d.size) (hp : RepParts k ow qs ps.toList)
    (h : fillX (fun i => some (i * d.size, d.size)) ((List.replicate n (zeroX d)).flatten) qs = some xs) (hcs : X.rds xs = some cs) (ht : ow (.nm c ix i) = none) (hf : c < s.clk ∨ (c = s.clk ∧ done ix)) :
    ∃ u w' k' ow', (Instr.buildSlice t n ps).run P w = .ok u w' ∧ k.le k' ∧ Sim M0 k' ow' done w0 w' N s tmps ∧ RepX k' ow' (.own (.nm c ix i) e d.size cs n) u := by
  obtain ⟨hund, hd⟩ := elemOf_und he
  have ok := TT.of_ok hd
  have hru := T_und (w := w) hund
  obtain ⟨z, hzr, hz2⟩ := ok.run_zero w
  have hzl : z.cells.toList.length = d.size := by rw [hz2]; exact ok.len
  -- the zero row
  let zs : Array Value := if n * d.size = 0 then #[] else z.cells
  let vals : Array Value := (Array.range (n * d.size)).map fun i => zs[i % zs.size]!
  have hvals : vals.toList = (List.replicate n d.zero).flatten := by
    by_cases h0 : n * d.size = 0
    · have hn0 : n = 0 := by rcases Nat.eq_zero_or_pos n with g | g; exact g; have := Nat.mul_pos g hz; omega
      subst hn0
      simp [vals]
    · have hzs : zs = z.cells := by simp only [zs, if_neg h0]
      have hr := range_zeros d.zero default n
      have hsz : zs.size = d.size := by rw [hzs]; simpa using hzl
      rw [← hr, ok.len]
      simp only [vals, Array.toList_map, Array.toList_range]
      apply List.map_congr_left
      intro i _
      rw [hsz]
      have hlt : i % d.size < d.size := Nat.mod_lt _ hz
      have h1 : i % d.size < zs.size := by rw [hsz]; exact hlt
      rw [getElem!_pos zs _ h1]
      have : zs.toList = d.zero := by rw [hzs]; exact hz2
      rw [List.getD_eq_getElem?_getD, ← this]
      simp [h1]
  have hz1 : ∀ u ∈ vals.toList, u.oneCell' = true := by
    rw [hvals]
    intro u hu
    obtain ⟨l, hl, hul⟩ := List.mem_flatten.1 hu
    rw [List.mem_replicate] at hl
    exact ok.one u (hl.2 ▸ hul)
  have hzx : RepXs k ow ((List.replicate n (zeroX d)).flatten) vals.toList := by
    rw [hvals]
    clear hvals hz1 h hn
    induction n with
    | zero => simp [RepXs]
    | succ n ih =>
      simp only [List.replicate_succ, List.flatten_cons]
      exact (zeroX_rep _).append ih
  obtain ⟨o, ho, h2, h3⟩ := fill_sound (k := k) (ow := ow) _ hp h hzx hz1
  have hcl := repX_rds _ _ _ hcs h2
  have hol : o.size = n * d.size := by
    have e1 := h2.length
    have e2 : ∀ (qs : List (Nat × List X)) (cells r : List X), fillX (fun i => some (i * d.size, d.size)) cells qs = some r → r.length = cells.length := by
      intro qs
      induction qs with
      | nil => intro cells r hr; simp only [fillX, Option.some.injEq] at hr; rw [hr]
      | cons q qs ih =>
        intro cells r hr
        obtain ⟨i, xs⟩ := q
        simp only [fillX] at hr
        split at hr
        · rename_i hc
          rw [ih _ _ hr]
          simp
          omega
        · cases hr
    have e3 := e2 _ _ _ h
    have e4 : ((List.replicate n (zeroX d)).flatten).length = n * d.size := by
      simp [List.length_flatten, zeroX, ok.len]
    simp only [Array.length_toList] at e1
    omega
  have hrow : (w.alloc (.cells o e)).ownsRow 0 e d.size (.slice (some ⟨w.heap.size, 0, none⟩) n n) n o.toList :=
    ⟨by simpa using hol, .inr ⟨w.heap.size, n, o, rfl, Nat.zero_le _, heap_alloc_new w _, Nat.le_refl _, by
      have : n ≤ n * d.size := Nat.le_mul_of_pos_right n hz
      simp only [maxLen]; omega, hol, by rw [List.take_of_length_le (by simp; omega)]⟩⟩
  obtain ⟨k', g1, g2, g3⟩ := hs.row (row := none) (w' := w.alloc (.cells o e)) (c := c) (ix := ix) (i := i) (fun g hg => by cases hg) (World.grownBy_alloc w _ none) hrow (.inr ⟨rfl, rfl⟩) hcl h3 ht hf
  refine ⟨_, _, k', _, ?_, g1, g2, g3⟩
  have hvdef : (Array.map (fun x => (if n * d.size = 0 then #[] else z.cells)[x % (if n * d.size = 0 then (#[] : Array Value) else z.cells).size]!) (Array.range (n * d.size))) = vals := rfl
  by_cases h0 : n * d.size = 0
  · simp only [Instr.buildSlice, Sem.run_bind, hru, Result.andThen_ok, ok.run_size, h0, if_neg (show ¬ (0 : Nat) > 2 ^ 24 by omega), Sem.run_pure, if_true]
    have hv0 : vals = Array.map (fun x => (#[] : Array Value)[x % (#[] : Array Value).size]!) (Array.range 0) := by simp only [vals, zs, h0, if_true]
    rw [hv0] at ho
    rw [ho]
    rfl
  · simp only [Instr.buildSlice, Sem.run_bind, hru, Result.andThen_ok, ok.run_size, if_neg (show ¬ n * d.size > 2 ^ 24 by omega), Sem.run_pure, h0, if_false, hzr]
    have hv0 : vals = Array.map (fun x => z.cells[x % z.cells.size]!) (Array.range (n * d.size)) := by simp only [vals, zs, h0, if_false]
    rw [hv0] at ho
    rw [ho]
    rfl

theorem run_append_at {t ty e : Nat} {d : TD} (hund : P.underlying t = some (.slice e)) (hd : TT.of P e = some d) (hz : 0 < d.size) {B : Nat} {v : Value} {n : Nat} {xs : List Value} (hown : w.ownsRow B e d.size v n xs)
    {A : Option Addr} {m c : Nat} {news : List Value} (hl : news.length = m * d.size) (hA : news ≠ [] → ∃ b o, A = some ⟨b, o, none⟩ ∧ ∀ i u, news[i]? = some u → w.cell? ⟨b, o + i, none⟩ = some u)
    (h1 : ∀ u ∈ news, u.oneCell' = true) (hLIM : n + m ≤ LIM) (hby : d.bytes ≤ 32768) (hbase : B ≤ w.heap.size) :
    ∃ v' w', (Builtin.append_ #[t, t] ty #[v, .slice A m c]).run P w = .ok v' w' ∧ w'.ownsRow B e d.size v' (n + m) (xs ++ news) ∧
      ((w.grownBy w' v.ownBlock ∧ v'.ownBlock = v.ownBlock) ∨ (w.grownBy w' none ∧ v'.ownBlock = some w.heap.size)) := by
  obtain ⟨i, hi, hsz, hbi, z, hzz, hzl, _⟩ := (TT.of_ok hd).info
  have hzsz : z.cells.size = i.size := by
    have := (TT.of_ok hd).len
    rw [← hzl] at this
    rw [hsz]
    simpa using this
  unfold LIM at hLIM
  have hbytes : (n + m) * i.bytes ≤ 140737488355328 := by
    rw [hbi]
    have : (n + m) * d.bytes ≤ 4294967296 * 32768 := Nat.mul_le_mul hLIM hby
    omega
  have h63 : n + m ≤ maxLen := by simp only [maxLen]; omega
  have hlen : (xs ++ news).length = (n + m) * d.size := by rw [List.length_append, hown.1, hl, Nat.add_mul]
  by_cases hm : m = 0
  · subst hm
    have hn : news = [] := List.eq_nil_of_length_eq_zero (by simpa using hl)
    subst hn
    refine ⟨v, w, ?_, by simpa using hown, .inl ⟨⟨rfl, rfl, rfl, Nat.le_refl _, fun _ _ _ => rfl⟩, rfl⟩⟩
    have hf : (Builtin.firstCells d.size 0 (.slice A 0 c)).run P w = .ok #[] w := by
      cases A <;> simp [Builtin.firstCells, loadCells, loadCellsFrom]
    rcases hown.2 with ⟨rfl, rfl⟩ | ⟨g, cap, cur, rfl, _, _, hcap, _⟩
    · simp [Builtin.append_, run_underlying hund, (TT.of_ok hd).run_size, Builtin.lenOf, hf]
    · simp [Builtin.append_, run_underlying hund, (TT.of_ok hd).run_size, Builtin.lenOf, hf, hcap, storeCells]
  · have hne : news ≠ [] := by
      intro e0
      rw [e0] at hl
      have : 0 < m * d.size := Nat.mul_pos (by omega) hz
      simp at hl
      omega
    obtain ⟨b, o, rfl, hcells⟩ := hA hne
    have hnews : ∀ j u, news[j]? = some u → w.cell? ((⟨b, o, none⟩ : Addr).add j) = some u := fun j u hu => by rw [Addr.add_lit]; exact hcells j u hu
    have grown : ∀ (old : Nat), old < n + m →
        (w.drew.alloc (.cells (xs.toArray ++ news.toArray ++ Builtin.zeroCells z.cells (grownCap w (n + m) old e - (n + m))) e)).ownsRow B e d.size
          (.slice (some ⟨w.heap.size, 0, none⟩) (n + m) (grownCap w (n + m) old e)) (n + m) (xs ++ news) ∧
        w.grownBy (w.drew.alloc (.cells (xs.toArray ++ news.toArray ++ Builtin.zeroCells z.cells (grownCap w (n + m) old e - (n + m))) e)) none := by
      intro old ho
      have hge := grownCap_ge w (n + m) old e
      have hcm : grownCap w (n + m) old e ≤ maxLen := grownCap_le_maxLen w (n + m) old e h63
      refine ⟨⟨hlen, .inr ⟨w.heap.size, _, _, rfl, hbase, heap_alloc_new w.drew _, hge, hcm, ?_, ?_⟩⟩, ⟨rfl, rfl, rfl, by simp, fun k hk _ => Go.RowKit.Below.heap_alloc w.drew _ k hk⟩⟩
      · simp only [Array.size_append, List.size_toArray, size_zeroCells, hzsz, hsz, hown.1, hl, ← Nat.add_mul]
        congr 1
        omega
      · simp only [Array.toList_append, List.append_assoc]
        rw [← List.append_assoc, ← hlen]
        exact List.take_left
    rcases hown.2 with ⟨rfl, rfl⟩ | ⟨g, cap, cur, rfl, hbg, hg, hnc, hcm, hcs, htake⟩
    · have hx : xs = [] := List.eq_nil_of_length_eq_zero (by simpa using hown.1)
      subst hx
      have hr := run_append_nil (P := P) w t ty e i z hund hi hzz ⟨b, o, none⟩ m c news (by rw [hsz]; exact hl) hnews (by omega) (by omega) (by have hb := hbytes; simp only [Nat.zero_add] at hb; omega)
      have hgr := grown 0 (by omega)
      simp only [Nat.zero_add, List.nil_append, Array.empty_append] at hgr ⊢
      exact ⟨_, _, hr, hgr.1, .inr ⟨hgr.2, rfl⟩⟩
    · by_cases hroom : n + m ≤ cap
      · have hfit : n * i.size + news.length ≤ cur.size := by rw [hl, hcs, hsz, ← Nat.add_mul]; exact Nat.mul_le_mul_right _ hroom
        have hr := run_append_room (P := P) w t ty e i hund hi g n cap cur hg ⟨b, o, none⟩ m c news (by rw [hsz]; exact hl) hnews h1 hroom hfit
        refine ⟨_, _, hr, ⟨hlen, .inr ⟨g, cap, _, rfl, hbg, setRow_heap w g cur _ e _ hg, hroom, hcm, ?_, ?_⟩⟩, .inl ⟨⟨rfl, rfl, rfl, by simp, fun k hk hkg => setRow_other w g k _ (fun e => hkg (by simp [Value.ownBlock, e]))⟩, rfl⟩⟩
        · rw [hsz] at hfit
          simp only [List.size_toArray, List.length_append, List.length_take, List.length_drop, Array.length_toList, hsz]
          omega
        · rw [hsz, htake, ← hlen]
          exact List.take_left
      · have holds : ∀ j u, xs[j]? = some u → w.cell? ((⟨g, 0, none⟩ : Addr).add j) = some u := hown.cells (g := g) rfl
        have hr := run_append_grow (P := P) w t ty e i z hund hi hzz ⟨g, 0, none⟩ n cap xs (by rw [hsz]; exact hown.1) holds ⟨b, o, none⟩ m c news (by rw [hsz]; exact hl) hnews (by omega) (by omega) (growslice_fits (by omega) hbytes)
        have hgr := grown cap (by omega)
        exact ⟨_, _, hr, hgr.1, .inr ⟨hgr.2, rfl⟩⟩

theorem append_sound (hs : Sim M0 k ow done w0 w N s tmps) {st xt ty : Nat} {x y z : X} {v vy : Value} {c ix i : Nat} {e : Option Tk} (h : appendX (TT.of P) (.nm c ix i) st xt x y = some (z, e)) (hx : RepX k ow x v) (hy : RepX k ow y vy)
    (ht : ow (.nm c ix i) = none) (hf : c < s.clk ∨ (c = s.clk ∧ done ix)) :
    ∃ u w' k' ow', (Builtin.append_ #[st, xt] ty #[v, vy]).run P w = .ok u w' ∧ k.le k' ∧ Sim M0 k' ow' done w0 w' N (s.drop e) tmps ∧ RepX k' ow' z u := by
  unfold appendX at h
  split at h
  · rename_i hst
    subst hst
    split at h
    · rename_i el d ys m he hsl
      obtain ⟨hund, hd⟩ := elemOf_und he
      have hund' : P.underlying st = some (.slice el) := by
        cases hT : TT.of P st with
        | none => simp [hT] at hund
        | some dd => simp only [hT, Option.map_some, Option.some.injEq] at hund; rw [← hund]; exact (TT.of_ok hT).und
      split at h
      · rename_i hc
        obtain ⟨hlen, hpos⟩ := hc
        have hy2 := as_sl hsl hy
        simp only [Rep] at hy2
        obtain ⟨A, cap, vs, rfl, hcap, hvl, hm⟩ := hy2
        have hA : vs ≠ [] → ∃ b o, A = some ⟨b, o, none⟩ ∧ ∀ i u, vs[i]? = some u → w.cell? ⟨b, o + i, none⟩ = some u := fun hne => by
          obtain ⟨b, o, ha, hc⟩ := hm hne
          exact ⟨b, o, ha, fun i u hu => (hs.mem _ _ _ (hc i u hu)).1⟩
        have h1 : ∀ u ∈ vs, u.oneCell' = true := fun u hu => by
          have hne : vs ≠ [] := by rintro rfl; cases hu
          obtain ⟨b, o, ha, hc⟩ := hm hne
          obtain ⟨i, hi⟩ := List.mem_iff_getElem?.1 hu
          exact (hs.mem _ _ _ (hc i u hi)).2
        have hvlen : vs.length = m * d.size := by rw [hvl.length]; exact hlen
        split at h
        · -- nil
          split at h
          · rename_i hb
            simp only [Option.some.injEq, Prod.mk.injEq] at h
            obtain ⟨rfl, rfl⟩ := h
            simp only [RepX] at hx
            subst hx
            obtain ⟨v', w', hr, hown, hcase⟩ := run_append_at (P := P) (w := w) (ty := ty) hund' hd hpos (World.ownsRow_nil w 0 el d.size) hvlen hA h1 (by simpa using hb.1) hb.2 (Nat.zero_le _)
            simp only [Nat.zero_add, List.nil_append] at hown
            have hcase' : (v'.ownBlock = none ∨ v'.ownBlock = some w.heap.size) ∧ w.grownBy w' none := by
              rcases hcase with ⟨g1, g2⟩ | ⟨g1, g2⟩
              · exact ⟨.inl g2, g1⟩
              · exact ⟨.inr g2, g1⟩
            obtain ⟨k', g1, g2, g3⟩ := hs.row (row := none) (w' := w') (v' := v') (c := c) (ix := ix) (i := i) (fun g hg => by cases hg) hcase'.2 hown (hcase'.1.imp id (fun h => ⟨h, rfl⟩)) hvl h1 ht hf
            exact ⟨v', w', k', _, hr, g1, g2, g3⟩
          · cases h
        · rename_i t' e' z' cs n
          split at h
          · rename_i hb
            obtain ⟨rfl, rfl, hb1, hb2⟩ := hb
            simp only [Option.some.injEq, Prod.mk.injEq] at h
            obtain ⟨rfl, rfl⟩ := h
            simp only [RepX] at hx
            obtain ⟨ho, hcl, hrep⟩ := hx
            obtain ⟨⟨xs, hown⟩, htok⟩ := hs.tok _ _ _ _ _ ho
            -- what the slice says of its cells
            have hxs : RepL k.m cs xs := by
              simp only [Rep] at hrep
              obtain ⟨a, cp, us, rfl, _, hul, hum⟩ := hrep
              have : us = xs := by
                have e1 : us.length = xs.length := by rw [hul.length, hown.1, hcl]
                apply List.ext_getElem? 
                intro i
                by_cases hi : i < us.length
                · have hne : us ≠ [] := by rintro rfl; simp at hi
                  obtain ⟨b, o, rfl, hc⟩ := hum hne
                  rcases hown.2 with ⟨h0, _⟩ | ⟨g, cap2, cur, hv, _⟩
                  · cases h0
                  · simp only [Value.slice.injEq, Option.some.injEq, Addr.mk.injEq] at hv
                    obtain ⟨⟨rfl, rfl, _⟩, _, rfl⟩ := hv
                    have hu : us[i]? = some us[i] := by simp [hi]
                    have hc1 := (hs.mem _ _ _ (hc i _ hu)).1
                    have hx2 : xs[i]? = some (xs[i]'(by omega)) := by simp [show i < xs.length by omega]
                    have hc2 := hown.cells (g := b) rfl i _ hx2
                    rw [Addr.add_lit] at hc2
                    rw [hc1] at hc2
                    rw [hu, hx2]
                    exact hc2
                · rw [List.getElem?_eq_none (by omega), List.getElem?_eq_none (by omega)]
              rw [← this]
              exact hul
            have hx1 : ∀ u ∈ xs, u.oneCell' = true := by
              intro u hu
              simp only [Rep] at hrep
              obtain ⟨a, cp, us, rfl, _, hul, hum⟩ := hrep
              obtain ⟨i, hi⟩ := List.mem_iff_getElem?.1 hu
              have hlt : i < xs.length := by
                rcases Nat.lt_or_ge i xs.length with g | g
                · exact g
                · rw [List.getElem?_eq_none g] at hi; cases hi
              have hne : us ≠ [] := by
                rintro rfl
                have e1 := hul.length
                rw [hown.1, ← hcl, ← e1] at hlt
                simp at hlt
              obtain ⟨b, o, rfl, hc⟩ := hum hne
              have hlu : i < us.length := by rw [hul.length, hcl, ← hown.1]; exact hlt
              have hc1 := hs.mem _ _ _ (hc i _ (List.getElem?_eq_getElem hlu))
              rcases hown.2 with ⟨h0, _⟩ | ⟨g, cap2, cur, hv, _⟩
              · cases h0
              · simp only [Value.slice.injEq, Option.some.injEq, Addr.mk.injEq] at hv
                obtain ⟨⟨rfl, rfl, _⟩, _, rfl⟩ := hv
                have hc2 := hown.cells (g := b) rfl i _ hi
                rw [Addr.add_lit, hc1.1] at hc2
                have := Option.some.inj hc2
                rw [← this]
                exact hc1.2
            obtain ⟨v', w', hr, hown', hcase⟩ := run_append_at (P := P) (w := w) (ty := ty) hund' hd hpos hown hvlen hA h1 hb1 hb2 (Nat.zero_le _)
            have hsd := hs.del t'
            have hcells : ∀ g o u, v.ownBlock = some g → k.m g o = some u → (xs ++ vs)[o]? = some u := by
              intro g o u hg hm2
              have hlt : o < n * d.size := by
                rcases Nat.lt_or_ge o (n * d.size) with g1 | g1
                · exact g1
                · rw [(htok g hg).2.1 o g1] at hm2; cases hm2
              have hlx : o < xs.length := by rw [hown.1]; exact hlt
              have hc1 := (hs.mem _ _ _ hm2).1
              have hx2 : xs[o]? = some (xs[o]'hlx) := by simp [hlx]
              have hc2 := hown.cells hg o _ hx2
              rw [Addr.add_lit, Nat.zero_add, hc1] at hc2
              rw [List.getElem?_append_left hlx, hx2]
              exact hc2.symm
            have htk : (ow.del t') (.nm c ix i) = none := by simp only [Own.del]; split; rfl; exact ht
            have hone2 : ∀ u ∈ xs ++ vs, u.oneCell' = true := fun u hu => by
              rcases List.mem_append.1 hu with hu | hu
              · exact hx1 u hu
              · exact h1 u hu
            have hne2 : ∀ g, v.ownBlock = some g → ∀ t v2 e z n, (ow.del t') t = some (v2, e, z, n) → v2.ownBlock ≠ some g := by
              intro g hg t v2 e2 z2 n2 h2
              simp only [Own.del] at h2
              split at h2
              · cases h2
              · rename_i hne
                exact hs.tokne t' t _ _ _ _ _ _ _ _ ho h2 (Ne.symm hne) g hg
            rcases hcase with ⟨g1, g2⟩ | ⟨g1, g2⟩
            · obtain ⟨k', q1, q2, q3⟩ := hsd.row (row := v.ownBlock) (w' := w') (v' := v') (c := c) (ix := ix) (i := i) (fun g hg => ⟨(htok g hg).1, (htok g hg).2.2, hne2 g hg, fun o u hm2 => hcells g o u hg hm2⟩) g1 hown' (.inl g2) (hxs.append hvl) hone2 htk hf
              exact ⟨v', w', k', _, hr, q1, q2, q3⟩
            · obtain ⟨k', q1, q2, q3⟩ := hsd.row (row := none) (w' := w') (v' := v') (c := c) (ix := ix) (i := i) (fun g hg => by cases hg) g1 hown' (.inr ⟨g2, rfl⟩) (hxs.append hvl) hone2 htk hf
              exact ⟨v', w', k', _, hr, q1, q2, q3⟩
          · cases h
        · cases h
      · cases h
    · cases h
  · cases h
end
end Go.Pe

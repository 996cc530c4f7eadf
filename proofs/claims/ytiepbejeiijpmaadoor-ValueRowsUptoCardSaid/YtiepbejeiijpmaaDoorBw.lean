/-
  strings.Builder's methods: what they do to memory, block by block. Conditions: none.
-/
import Derived.Test.YtiepbejeiijpmaaDoorIt
import Derived.Lib.AppendStr
import Derived.Lib.Builder
import Derived.Lib.UnsafeStr
import Derived.Lib.ItoaMem
import Derived.WalkKit
import Derived.Shelf.Strings.Builder1
import Derived.Test.YtiepbejeiijpmaaDoorPeTab
import Derived.Test.YtiepbejeiijpmaaDoorPe7
namespace Go.Proofs.YtiepbejeiijpmaaDoor
open Go Go.RowKit Go.Pe

theorem infoBuilder : (Tryd.prog.info? 83).map (·.size) = some 2 := by kernel_rfl
theorem liesBuilder : liesAt Tryd.prog Tryd.prog.depth 83 (2 / Tryd.prog.cellsOf 83) 0 83 1 = true := by kernel_rfl

set_option maxHeartbeats 1000000 in
set_option maxRecDepth 100000 in
theorem check_used (b : Nat) (w : World) (h0 : w.cell? ⟨b, 0, none⟩ = some (.pointer (some ⟨b, 0, none⟩))) :
    Calls Tryd.prog 98 #[.pointer (some ⟨b, 0, none⟩)] w fun e w' => e = .returned (.tuple #[]) ∧ w' = w := by
  obtain ⟨j, hj, _⟩ := Option.map_eq_some_iff.1 infoBuilder
  go_enter Tryd.func98, Tryd.ntmps98
  go_wp2
  rw [Lib.run_neq_ptr_same w _ Tryd.underlying80 hj]
  go_wp2
  go_end0
  exact ⟨rfl, rfl⟩
set_option maxHeartbeats 1000000 in
set_option maxRecDepth 100000 in
theorem check_fresh (b : Nat) (w : World) (h0 : w.cell? ⟨b, 0, none⟩ = some (.pointer none)) (hsh : w.shape? b = some (83, 2)) (hfz : w.frozen? ⟨b, 0, none⟩ = false) :
    Calls Tryd.prog 98 #[.pointer (some ⟨b, 0, none⟩)] w fun e w' => e = .returned (.tuple #[]) ∧ w' = w.setCell ⟨b, 0, none⟩ (.pointer (some ⟨b, 0, none⟩)) := by
  obtain ⟨j, hj, hjs⟩ := Option.map_eq_some_iff.1 infoBuilder
  go_enter Tryd.func98, Tryd.ntmps98
  go_wp2
  rw [Lib.run_to_unsafe w ⟨b, 0, none⟩ Tryd.underlying80 Tryd.underlying100 hj (by rw [hjs]; decide) hsh (Nat.zero_lt_succ 1)]
  simp only [Result.andThen]
  rw [Oper.upon_value]
  go_wp2
  rw [run_callFunc_extern Tryd.func106 (by kernel_rfl) (by kernel_rfl) (by kernel_rfl) (e := Extern.AbiNoEscape.same) (by kernel_rfl)]
  rw [Lib.run_noEscape]
  simp only [Result.andThen]
  rw [Oper.upon_value]
  go_wp2
  rw [Lib.run_from_unsafe w ⟨b, 0, none⟩ Tryd.underlying100 Tryd.underlying80 hj hsh liesBuilder]
  simp only [Result.andThen]
  rw [Oper.upon_value]
  go_wp2
  go_end0
  exact ⟨rfl, rfl⟩
/-- A Builder's block, and its row. -/
structure BAt (b : Nat) (p v : Value) (bs : List Value) (w : World) : Prop where
  blk : w.heap[b]? = some (.cells #[p, v] 83 (0, 0))
  own : w.ownsRow 0 5 1 v bs.length bs
  ne : v.ownBlock ≠ some b
theorem BAt.lt {b : Nat} {p v : Value} {bs : List Value} {w : World} (h : BAt b p v bs w) : b < w.heap.size := (Array.getElem?_eq_some_iff.1 h.blk).1
/-- What a writing method leaves: its block and its row alone turn. -/
structure BPost (b : Nat) (v : Value) (w w' : World) (v' : Value) (bs' : List Value) : Prop where
  at' : BAt b (.pointer (some ⟨b, 0, none⟩)) v' bs' w'
  size : w.heap.size ≤ w'.heap.size
  os : w'.os = w.os
  tape : w'.tape = w.tape
  output : w'.output = w.output
  row : (v'.ownBlock = v.ownBlock ∧ ∀ k, k < w.heap.size → k ≠ b → some k ≠ v.ownBlock → w'.heap[k]? = w.heap[k]?) ∨ ((∃ g, v'.ownBlock = some g ∧ w.heap.size ≤ g) ∧ ∀ k, k < w.heap.size → k ≠ b → w'.heap[k]? = w.heap[k]?)
/-- What copyCheck leaves. -/
structure CPost (b : Nat) (v : Value) (w w' : World) (bs : List Value) : Prop where
  at' : BAt b (.pointer (some ⟨b, 0, none⟩)) v bs w'
  size : w'.heap.size = w.heap.size
  os : w'.os = w.os
  tape : w'.tape = w.tape
  output : w'.output = w.output
  rest : ∀ k, k ≠ b → w'.heap[k]? = w.heap[k]?

theorem setCell_other (w : World) (b o : Nat) (x : Value) (k : Nat) (h : k ≠ b) : (w.setCell ⟨b, o, none⟩ x).heap[k]? = w.heap[k]? := by
  simp only [World.setCell, Array.getElem?_modify]
  rw [if_neg (Ne.symm h)]
theorem setCell_size (w : World) (b o : Nat) (x : Value) : (w.setCell ⟨b, o, none⟩ x).heap.size = w.heap.size := by simp [World.setCell]

/-- copyCheck: the address is laid. -/
theorem check (b : Nat) (p v : Value) (bs : List Value) (w : World) (hp : p = .pointer none ∨ p = .pointer (some ⟨b, 0, none⟩)) (h : BAt b p v bs w) :
    Calls Tryd.prog 98 #[.pointer (some ⟨b, 0, none⟩)] w fun e w' => e = .returned (.tuple #[]) ∧ CPost b v w w' bs := by
  rcases hp with rfl | rfl
  · refine (check_fresh b w (by rw [Lib.cell_of_heap h.blk]; rfl) (by simp [World.shape?, h.blk]) (Lib.frozen_of_heap h.blk 0)).mono ?_
    rintro e w' ⟨rfl, rfl⟩
    refine ⟨rfl, ⟨?_, ?_, h.ne⟩, setCell_size w b 0 _, rfl, rfl, rfl, fun k hk => setCell_other w b 0 _ k hk⟩
    · simp [World.setCell, Array.getElem?_modify, h.blk]
    · exact h.own.kept (row := some b) ⟨rfl, rfl, rfl, by simp [World.setCell], fun k _ hk => setCell_other w b 0 _ k (fun e => hk (by simp [e]))⟩ (Or.inr h.ne)
  · refine (check_used b w (by rw [Lib.cell_of_heap h.blk]; rfl)).mono ?_
    rintro e w' ⟨rfl, rfl⟩
    exact ⟨rfl, h, rfl, rfl, rfl, rfl, fun _ _ => rfl⟩

/-- A string's bytes appended to a row: the row is the old one, or a new one. -/
theorem append_str {P : Program} (w : World) (t u ty e : TypeId) (i : TypeInfo) (ht : P.underlying t = some (.slice e)) (hu : P.underlying u = some .string) (hi : P.info? e = some i) (hz : i.zero = some (.int .u8 0))
    (hsize : i.size = 1) (hby : i.bytes = 1) (v : Value) (n : Nat) (xs : List Value) (hown : w.ownsRow 0 e 1 v n xs) (s : ByteArray) (hb : n + s.size ≤ 4294967296) :
    ∃ v' w', (Builtin.append_ #[t, u] ty #[v, .string s]).run P w = .ok v' w' ∧ w'.ownsRow 0 e 1 v' (n + s.size) (xs ++ Lib.strCells s) ∧ ((w.grownBy w' v.ownBlock ∧ v'.ownBlock = v.ownBlock) ∨ (w.grownBy w' none ∧ v'.ownBlock = some w.heap.size)) := by
  obtain ⟨v', w', hr, h2, h3, h4⟩ := Lib.run_append_own_string (P := P) w 0 t u ty e i ht hu hi hz hsize hby v n xs hown s (by unfold maxLen; omega) (by omega) (Nat.zero_le _)
  refine ⟨v', w', hr, h2, ?_⟩
  rcases hown.2 with ⟨rfl, rfl⟩ | ⟨g, cap, cur, rfl, hbg, hg, hnc, hcm, hcs, htake⟩
  · by_cases hm : s.size = 0
    · exact .inl ⟨h3, by rw [h4.2 ⟨rfl, hm⟩]⟩
    · have hr2 := run_append_nil_string (P := P) w t u ty e i (.int .u8 0) ht hu hi hz s (by omega) (by omega) (by rw [hby]; omega)
      rw [hr] at hr2
      cases hr2
      exact .inr ⟨⟨rfl, rfl, rfl, by simp, fun k hk _ => Lib.alloc_old w.drew _ k hk⟩, rfl⟩
  · by_cases hroom : n + s.size ≤ cap
    · have hr2 := Lib.run_append_room_string (P := P) w t u ty e i ht hu hi hsize g n cap cur hg s hroom (by omega)
      rw [hr] at hr2
      cases hr2
      exact .inl ⟨h3, rfl⟩
    · have hr2 := Lib.run_append_grow_string (P := P) w t u ty e i (.int .u8 0) ht hu hi hz ⟨g, 0, none⟩ n cap xs (by rw [hsize]; simpa using hown.1) (hown.cells (g := g) rfl) s (by omega) (by omega) (by rw [hby]; exact growslice_fits (by omega) (by omega))
      rw [hr] at hr2
      cases hr2
      exact .inr ⟨⟨rfl, rfl, rfl, by simp, fun k hk _ => Lib.alloc_old w.drew _ k hk⟩, rfl⟩
theorem infoByte0 : (Tryd.prog.info? 5).map (fun i => (i.zero, i.size, i.bytes)) = some (some (.int .u8 0), 1, 1) := by kernel_rfl
theorem infoByte : ∃ i, Tryd.prog.info? 5 = some i ∧ i.zero = some (.int .u8 0) ∧ i.size = 1 ∧ i.bytes = 1 := by
  obtain ⟨i, hi, he⟩ := Option.map_eq_some_iff.1 infoByte0
  simp only [Prod.mk.injEq] at he
  exact ⟨i, hi, he⟩
theorem wp_append_str {P : Program} {w : World} {ops : Array Oper} {rest : List Oper} {o : Oper} {a : Act} {Q : Exit → Act → World → Prop} (hgd : o.guard = none) (sl x : Operand) (t u : TypeId)
    (ho : o.op = .call { callee := .builtin .append, args := #[sl, x], argTypes := #[t, u] })
    (e : TypeId) (i : TypeInfo) (ht : P.underlying t = some (.slice e)) (hu : P.underlying u = some .string) (hi : P.info? e = some i) (hz : i.zero = some (.int .u8 0))
    (hsize : i.size = 1) (hby : i.bytes = 1)
    (v : Value) (n : Nat) (xs : List Value) (hs : a.eval sl = v) (hown : w.ownsRow 0 e 1 v n xs) (s : ByteArray) (hx : a.eval x = .string s) (hb : n + s.size ≤ 4294967296)
    (h : ∀ v' w', w'.ownsRow 0 e 1 v' (n + s.size) (xs ++ Lib.strCells s) → ((w.grownBy w' v.ownBlock ∧ v'.ownBlock = v.ownBlock) ∨ (w.grownBy w' none ∧ v'.ownBlock = some w.heap.size)) → wpList P ops Q rest (a.put o.dst v') w') : wpList P ops Q (o :: rest) a w := by
  refine wpList_plain hgd fun K hK => ?_
  obtain ⟨v', w', hr, h2, h3⟩ := append_str (P := P) w t u o.type e i ht hu hi hz hsize hby v n xs hown s hb
  unfold Oper.wp execOp
  simp only [ho, resolve, invoke, builtin, Sem.run_bind, Sem.run_pure, Result.andThen_ok, List.map_toArray, List.map_cons, List.map_nil, hs, hx, hr]
  exact hK _ _ (h v' w' h2 h3)
theorem wp_append_row {P : Program} {w : World} {ops : Array Oper} {rest : List Oper} {o : Oper} {a : Act} {Q : Exit → Act → World → Prop} (hgd : o.guard = none) (sl x : Operand) (t : TypeId)
    (ho : o.op = .call { callee := .builtin .append, args := #[sl, x], argTypes := #[t, t] })
    (e : TypeId) (d : TD) (ht : P.underlying t = some (.slice e)) (hd : TT.of P e = some d) (hz : d.size = 1) (hby : d.bytes ≤ 32768)
    (v : Value) (n : Nat) (xs : List Value) (hs : a.eval sl = v) (hown : w.ownsRow 0 e 1 v n xs) (b off m c : Nat) (news : List Value) (hx : a.eval x = .slice (some ⟨b, off, none⟩) m c) (hl : news.length = m)
    (hnews : ∀ i u, news[i]? = some u → w.cell? ⟨b, off + i, none⟩ = some u) (h1 : ∀ u ∈ news, u.oneCell' = true) (hb : n + m ≤ LIM)
    (h : ∀ v' w', w'.ownsRow 0 e 1 v' (n + m) (xs ++ news) → ((w.grownBy w' v.ownBlock ∧ v'.ownBlock = v.ownBlock) ∨ (w.grownBy w' none ∧ v'.ownBlock = some w.heap.size)) → wpList P ops Q rest (a.put o.dst v') w') : wpList P ops Q (o :: rest) a w := by
  refine wpList_plain hgd fun K hK => ?_
  obtain ⟨v', w', hr, h2, h3⟩ := run_append_at (P := P) (w := w) (t := t) (ty := o.type) (c := c) ht hd (by omega) (by rw [hz]; exact hown) (A := some ⟨b, off, none⟩) (m := m) (news := news) (by rw [hz]; omega) (fun _ => ⟨b, off, rfl, hnews⟩) h1 hb hby (Nat.zero_le _)
  rw [hz] at h2
  unfold Oper.wp execOp
  simp only [ho, resolve, invoke, builtin, Sem.run_bind, Sem.run_pure, Result.andThen_ok, List.map_toArray, List.map_cons, List.map_nil, hs, hx, hr]
  exact hK _ _ (h v' w' h2 h3)
/-- What is laid into 'buf'. -/
theorem CPost.put {b : Nat} {v v' : Value} {bs bs' : List Value} {w w1 w2 : World} (h1 : CPost b v w w1 bs) (hown : w2.ownsRow 0 5 1 v' bs'.length bs') (hg : (w1.grownBy w2 v.ownBlock ∧ v'.ownBlock = v.ownBlock) ∨ (w1.grownBy w2 none ∧ ∃ g, v'.ownBlock = some g ∧ w1.heap.size ≤ g)) :
    BPost b v w (w2.setCell ⟨b, 1, none⟩ v') v' bs' ∧ w2.heap[b]? = some (.cells #[.pointer (some ⟨b, 0, none⟩), v] 83 (0, 0)) := by
  have hb2 : w2.heap[b]? = some (.cells #[.pointer (some ⟨b, 0, none⟩), v] 83 (0, 0)) := by
    rcases hg with ⟨hg, _⟩ | ⟨hg, _⟩
    · rw [hg.block b h1.at'.lt (fun e => h1.at'.ne e.symm)]
      exact h1.at'.blk
    · rw [hg.block b h1.at'.lt (by simp)]
      exact h1.at'.blk
  have hne : v'.ownBlock ≠ some b := by
    rcases hg with ⟨_, h⟩ | ⟨_, g, h, hl⟩
    · rw [h]; exact h1.at'.ne
    · rw [h]
      intro e
      have := h1.at'.lt
      simp only [Option.some.injEq] at e
      omega
  have hos : w2.os = w1.os ∧ w2.tape = w1.tape ∧ w2.output = w1.output ∧ w1.heap.size ≤ w2.heap.size := by
    rcases hg with ⟨hg, _⟩ | ⟨hg, _⟩ <;> exact ⟨hg.os, hg.tape, hg.output, hg.size⟩
  refine ⟨⟨⟨?_, ?_, hne⟩, ?_, hos.1.trans h1.os, hos.2.1.trans h1.tape, hos.2.2.1.trans h1.output, ?_⟩, hb2⟩
  · simp [World.setCell, Array.getElem?_modify, hb2]
  · exact hown.kept (row := some b) ⟨rfl, rfl, rfl, by simp [World.setCell], fun k _ hk => setCell_other w2 b 1 _ k (fun e => hk (by simp [e]))⟩ (Or.inr hne)
  · rw [setCell_size]; have := h1.size; omega
  · rcases hg with ⟨hg, h⟩ | ⟨hg, g, h, hl⟩
    · refine .inl ⟨h, fun k hk hkb hkv => ?_⟩
      rw [setCell_other w2 b 1 _ k hkb, hg.block k (by rw [h1.size]; exact hk) hkv]
      exact h1.rest k hkb
    · refine .inr ⟨⟨g, h, by rw [← h1.size]; exact hl⟩, fun k hk hkb => ?_⟩
      rw [setCell_other w2 b 1 _ k hkb, hg.block k (by rw [h1.size]; exact hk) (by simp)]
      exact h1.rest k hkb

set_option maxHeartbeats 2000000 in
set_option maxRecDepth 100000 in
theorem writeString (b : Nat) (p v : Value) (bs : List Value) (s : ByteArray) (w : World) (hp : p = .pointer none ∨ p = .pointer (some ⟨b, 0, none⟩)) (h : BAt b p v bs w) (hlen : bs.length + s.size ≤ 4294967296) :
    Calls Tryd.prog 87 #[.pointer (some ⟨b, 0, none⟩), .string s] w fun e w' => e = .returned (.tuple #[.int .i64 s.size, .nilIface]) ∧ ∃ v', BPost b v w w' v' (bs ++ Lib.strCells s) := by
  obtain ⟨i0, hi, hz0, hz1, hz2⟩ := infoByte
  go_enter Tryd.func87, Tryd.ntmps87
  go_wp2_with (go_at_call 98; refine (check b p v bs _ hp h).mono ?_)
  rintro e w1 ⟨rfl, h1⟩
  have c0 : w1.cell? ⟨b, 0, none⟩ = some (.pointer (some ⟨b, 0, none⟩)) := by rw [Lib.cell_of_heap h1.at'.blk]; rfl
  have c1 : w1.cell? ⟨b, 1, none⟩ = some v := by rw [Lib.cell_of_heap h1.at'.blk]; rfl
  go_wp2_with (at_builtin; refine wp_append_str rfl _ _ 81 9 rfl 5 i0 Tryd.underlying81 Tryd.underlying9 hi hz0 hz1 hz2 _ _ _ rfl h1.at'.own s rfl hlen ?_)
  intro v' w2 hown' hgrow
  obtain ⟨hpost, hb2⟩ := h1.put (v' := v') (bs' := bs ++ Lib.strCells s) (w2 := w2) (by simpa [Lib.strCells_length] using hown') (hgrow.elim .inl fun e => .inr ⟨e.1, _, e.2, Nat.le_refl _⟩)
  have d0 : w2.cell? ⟨b, 0, none⟩ = some (.pointer (some ⟨b, 0, none⟩)) := by rw [Lib.cell_of_heap hb2]; rfl
  have d1 : w2.cell? ⟨b, 1, none⟩ = some v := by rw [Lib.cell_of_heap hb2]; rfl
  have f1 : w2.frozen? ⟨b, 1, none⟩ = false := Lib.frozen_of_heap hb2 1
  obtain ⟨ao, n', cap, rfl⟩ : ∃ ao n' cap, v' = .slice ao n' cap := by
    rcases hown'.2 with ⟨hv, _⟩ | ⟨g, cap, cur, hv, _⟩
    · exact ⟨_, _, _, hv⟩
    · exact ⟨_, _, _, hv⟩
  go_wp2
  go_ret2
  exact ⟨rfl, _, hpost⟩

set_option maxHeartbeats 2000000 in
set_option maxRecDepth 100000 in
theorem writeByte (b : Nat) (p v : Value) (bs : List Value) (c : Int) (w : World) (hp : p = .pointer none ∨ p = .pointer (some ⟨b, 0, none⟩)) (h : BAt b p v bs w) (hlen : bs.length + 1 ≤ 4294967296) :
    Calls Tryd.prog 88 #[.pointer (some ⟨b, 0, none⟩), .int .u8 c] w fun e w' => e = .returned .nilIface ∧ ∃ v', BPost b v w w' v' (bs ++ [.int .u8 c]) := by
  obtain ⟨i0, hi, hz0, hz1, hz2⟩ := infoByte
  go_enter Tryd.func88, Tryd.ntmps88
  go_wp2_with (go_at_call 98; refine (check b p v bs _ hp h).mono ?_)
  rintro e w1 ⟨rfl, h1⟩
  have c0 : w1.cell? ⟨b, 0, none⟩ = some (.pointer (some ⟨b, 0, none⟩)) := by rw [Lib.cell_of_heap h1.at'.blk]; rfl
  have c1 : w1.cell? ⟨b, 1, none⟩ = some v := by rw [Lib.cell_of_heap h1.at'.blk]; rfl
  have hblt := h1.at'.lt
  go_wp2_with (at_builtin; refine wp_append_row rfl _ _ 81 rfl 5 _ Tryd.underlying81 T5 rfl (by decide) _ _ _ rfl (h1.at'.own.alloc _) w1.heap.size 0 1 1 [.int .u8 c] rfl rfl ?c1 ?c2 ?c3 ?_)
  case c1 =>
    intro j u hj
    match j, hj with
    | 0, hj => simp at hj; subst hj; simp
  case c2 => intro u hu; simp at hu; subst hu; rfl
  case c3 => unfold LIM; omega
  intro v' w2 hown' hgrow
  have hgrow1 : (w1.grownBy w2 v.ownBlock ∧ v'.ownBlock = v.ownBlock) ∨ (w1.grownBy w2 none ∧ ∃ g, v'.ownBlock = some g ∧ w1.heap.size ≤ g) := by
    rcases hgrow with ⟨hg, h⟩ | ⟨hg, h⟩
    · exact .inl ⟨⟨hg.os, hg.tape, hg.output, by have := hg.size; simp at this; omega, fun k hk hne => by rw [hg.block k (by simp; omega) hne, Lib.alloc_old w1 _ k hk]⟩, h⟩
    · exact .inr ⟨⟨hg.os, hg.tape, hg.output, by have := hg.size; simp at this; omega, fun k hk hne => by rw [hg.block k (by simp; omega) hne, Lib.alloc_old w1 _ k hk]⟩, _, h, by simp⟩
  obtain ⟨hpost, hb2⟩ := h1.put (v' := v') (bs' := bs ++ [.int .u8 c]) (w2 := w2) (by simpa using hown') hgrow1
  have d0 : w2.cell? ⟨b, 0, none⟩ = some (.pointer (some ⟨b, 0, none⟩)) := by rw [Lib.cell_of_heap hb2]; rfl
  have d1 : w2.cell? ⟨b, 1, none⟩ = some v := by rw [Lib.cell_of_heap hb2]; rfl
  have f1 : w2.frozen? ⟨b, 1, none⟩ = false := Lib.frozen_of_heap hb2 1
  obtain ⟨ao, n', cap, rfl⟩ : ∃ ao n' cap, v' = .slice ao n' cap := by
    rcases hown'.2 with ⟨hv, _⟩ | ⟨g, cap, cur, hv, _⟩
    · exact ⟨_, _, _, hv⟩
    · exact ⟨_, _, _, hv⟩
  go_wp2
  go_ret
  exact ⟨rfl, _, hpost⟩

/-- What String leaves: its row alone turns. -/
structure SPost (v : Value) (w w' : World) : Prop where
  grown : ∀ k, k < w.heap.size → some k ≠ v.ownBlock → w'.heap[k]? = w.heap[k]?
  size : w.heap.size ≤ w'.heap.size
  os : w'.os = w.os
  tape : w'.tape = w.tape
  output : w'.output = w.output
  cell : ∀ c o, c < w.heap.size → w'.cell? ⟨c, o, none⟩ = w.cell? ⟨c, o, none⟩
theorem SPost.drew (v : Value) (w : World) : SPost v w w.drew := ⟨fun _ _ _ => rfl, Nat.le_refl _, rfl, rfl, rfl, fun _ _ _ => rfl⟩
theorem cell_freeze (w : World) (p : Addr) (n c o : Nat) : (w.freeze p n).cell? ⟨c, o, none⟩ = w.cell? ⟨c, o, none⟩ := by
  unfold World.freeze
  split
  · rfl
  · simp only [World.cell?, Array.getElem?_modify]
    by_cases e : p.block = c
    · rw [if_pos e]
      cases w.heap[c]? with
      | none => rfl
      | some ob => cases ob <;> rfl
    · rw [if_neg e]
theorem SPost.alloc (v : Value) (w : World) (o : Obj) : SPost v w (w.drew.alloc o) := ⟨fun k hk _ => Lib.alloc_old w.drew _ k hk, by simp, rfl, rfl, rfl, fun c o hc => World.cell?_of_block (a := ⟨c, o, none⟩) (Lib.alloc_old w.drew _ c hc)⟩
theorem SPost.freeze {g n c m : Nat} (w : World) : SPost (.slice (some ⟨g, 0, none⟩) n c) w (w.drew.freeze ⟨g, 0, none⟩ m) := by
  unfold World.freeze
  split
  · exact SPost.drew _ w
  · refine ⟨fun k hk hne => ?_, by simp, rfl, rfl, rfl, fun c o _ => ?_⟩
    · have : ¬ g = k := fun e => hne (by simp [Value.ownBlock, e])
      simp only [Array.getElem?_modify]
      rw [if_neg this]
      rfl
    · have := cell_freeze w.drew ⟨g, 0, none⟩ m c o
      unfold World.freeze at this
      rename_i hm _
      rw [if_neg hm] at this
      exact this

theorem cellsByte : Tryd.prog.cellsOf 5 = 1 := by kernel_rfl
set_option maxHeartbeats 2000000 in
set_option maxRecDepth 100000 in
theorem string_some (b g cap : Nat) (p : Value) (cur : Array Value) (l : List UInt8) (w : World) (h0 : l ≠ []) (h : BAt b p (.slice (some ⟨g, 0, none⟩) l.length cap) (Lib.byteCells l) w) (hg : w.heap[g]? = some (.cells cur 5 (0, 0))) (hnc : l.length ≤ cap) (hcm : cap ≤ maxLen) (hcs : cur.size = cap * 1) :
    Calls Tryd.prog 89 #[.pointer (some ⟨b, 0, none⟩)] w fun e w' => e = .returned (.string ⟨l.toArray⟩) ∧ SPost (.slice (some ⟨g, 0, none⟩) l.length cap) w w' := by
  have hl0 : l.length ≠ 0 := by simpa using h0
  have hown := h.own
  have c1 : w.drew.cell? ⟨b, 1, none⟩ = some (.slice (some ⟨g, 0, none⟩) l.length cap) := by
    have : w.drew.heap[b]? = some (.cells #[p, .slice (some ⟨g, 0, none⟩) l.length cap] 83 (0, 0)) := h.blk
    rw [Lib.cell_of_heap this]; rfl
  have hSD : (Builtin.unsafeSliceData_ #[81] 95 #[.slice (some ⟨g, 0, none⟩) l.length cap]).run Tryd.prog w.drew = .ok (.pointer (some ⟨g, 0, none⟩)) w.drew :=
    Lib.run_unsafeSliceData_row _ _ _ _ _ _ (by omega)
  have hUS : (Builtin.unsafeString_ #[95, 3] 9 #[.pointer (some ⟨g, 0, none⟩), .int .i64 l.length]).run Tryd.prog w.drew = .ok (.string ⟨l.toArray⟩) (w.drew.freeze ⟨g, 0, none⟩ l.length) := by
    refine Lib.run_unsafeString_row w.drew 95 3 9 5 Tryd.underlying95 cellsByte g cur.size (by have hg' : w.drew.heap[g]? = some (.cells cur 5 (0, 0)) := hg; simp [World.shape?, hg']) l h0 (by omega) (by unfold maxLen at hcm; omega) ?_
    intro j x hx
    exact hown.cells (g := g) rfl j (.int .u8 x.toNat) (by simp [Lib.byteCells, hx])
  clear hown h
  have hmixed := mixed
  go_enter Tryd.func89, Tryd.ntmps89
  go_wp2
  go_region_o
  all_goals (go_wp2; go_ret; exact ⟨rfl, SPost.freeze w⟩)

set_option maxHeartbeats 2000000 in
set_option maxRecDepth 100000 in
theorem string_nil (b : Nat) (p : Value) (w : World) (hbk : w.heap[b]? = some (.cells #[p, .slice none 0 0] 83 (0, 0))) :
    Calls Tryd.prog 89 #[.pointer (some ⟨b, 0, none⟩)] w fun e w' => e = .returned (.string ⟨#[]⟩) ∧ SPost (.slice none 0 0) w w' := by
  have hUS : ∀ (W : World) (q : Option Addr), (Builtin.unsafeString_ #[95, 3] 9 #[.pointer q, .int .i64 0]).run Tryd.prog W = .ok (.string .empty) W := fun W q => Lib.run_unsafeString_none W _ _ _ q
  have c1 : w.drew.cell? ⟨b, 1, none⟩ = some (.slice none 0 0) := by
    have : w.drew.heap[b]? = some (.cells #[p, .slice none 0 0] 83 (0, 0)) := hbk
    rw [Lib.cell_of_heap this]; rfl
  have hSD : (Builtin.unsafeSliceData_ #[81] 95 #[.slice none 0 0]).run Tryd.prog w.drew = .ok (.pointer none) w.drew := rfl
  have hmixed := mixed
  go_enter Tryd.func89, Tryd.ntmps89
  go_wp2
  go_region_o
  all_goals (go_wp2; go_ret; exact ⟨rfl, SPost.drew _ w⟩)

set_option maxHeartbeats 2000000 in
set_option maxRecDepth 100000 in
theorem string_room (b g cap : Nat) (p : Value) (w : World) (hc0 : cap ≠ 0) (hbk : w.heap[b]? = some (.cells #[p, .slice (some ⟨g, 0, none⟩) 0 cap] 83 (0, 0))) :
    Calls Tryd.prog 89 #[.pointer (some ⟨b, 0, none⟩)] w fun e w' => e = .returned (.string ⟨#[]⟩) ∧ SPost (.slice (some ⟨g, 0, none⟩) 0 cap) w w' := by
  have hUS : ∀ (W : World) (q : Option Addr), (Builtin.unsafeString_ #[95, 3] 9 #[.pointer q, .int .i64 0]).run Tryd.prog W = .ok (.string .empty) W := fun W q => Lib.run_unsafeString_none W _ _ _ q
  have c1 : w.drew.cell? ⟨b, 1, none⟩ = some (.slice (some ⟨g, 0, none⟩) 0 cap) := by
    have : w.drew.heap[b]? = some (.cells #[p, .slice (some ⟨g, 0, none⟩) 0 cap] 83 (0, 0)) := hbk
    rw [Lib.cell_of_heap this]; rfl
  have hSD : (Builtin.unsafeSliceData_ #[81] 95 #[.slice (some ⟨g, 0, none⟩) 0 cap]).run Tryd.prog w.drew = .ok (.pointer (some ⟨g, 0, none⟩)) w.drew :=
    Lib.run_unsafeSliceData_row _ _ _ _ _ _ hc0
  clear hc0
  have hmixed := mixed
  go_enter Tryd.func89, Tryd.ntmps89
  go_wp2
  go_region_o
  all_goals (go_wp2; go_ret; exact ⟨rfl, SPost.drew _ w⟩)

set_option maxHeartbeats 2000000 in
set_option maxRecDepth 100000 in
theorem string_noroom (b g : Nat) (p : Value) (cur : Array Value) (w : World) (hbk : w.heap[b]? = some (.cells #[p, .slice (some ⟨g, 0, none⟩) 0 0] 83 (0, 0))) (hg : w.heap[g]? = some (.cells cur 5 (0, 0))) :
    Calls Tryd.prog 89 #[.pointer (some ⟨b, 0, none⟩)] w fun e w' => e = .returned (.string ⟨#[]⟩) ∧ SPost (.slice (some ⟨g, 0, none⟩) 0 0) w w' := by
  have hUS : ∀ (W : World) (q : Option Addr), (Builtin.unsafeString_ #[95, 3] 9 #[.pointer q, .int .i64 0]).run Tryd.prog W = .ok (.string .empty) W := fun W q => Lib.run_unsafeString_none W _ _ _ q
  have hlt : b < w.heap.size := (Array.getElem?_eq_some_iff.1 hbk).1
  have c1 : w.drew.cell? ⟨b, 1, none⟩ = some (.slice (some ⟨g, 0, none⟩) 0 0) := by
    have : w.drew.heap[b]? = some (.cells #[p, .slice (some ⟨g, 0, none⟩) 0 0] 83 (0, 0)) := hbk
    rw [Lib.cell_of_heap this]; rfl
  have hSD : (Builtin.unsafeSliceData_ #[81] 95 #[.slice (some ⟨g, 0, none⟩) 0 0]).run Tryd.prog w.drew = .ok (.pointer (some ⟨w.drew.heap.size, 0, none⟩)) (w.drew.alloc (.view ⟨g, 0, none⟩ 5)) :=
    Lib.run_unsafeSliceData_zero w.drew _ _ 5 Tryd.underlying95 ⟨g, 0, none⟩ 0 (5, cur.size) (by have hg' : w.drew.heap[g]? = some (.cells cur 5 (0, 0)) := hg; simp [World.shape?, hg'])
  have c2 : (w.drew.alloc (.view ⟨g, 0, none⟩ 5)).cell? ⟨b, 1, none⟩ = some (.slice (some ⟨g, 0, none⟩) 0 0) := by
    have : (w.drew.alloc (.view ⟨g, 0, none⟩ 5)).heap[b]? = _ := (Lib.alloc_old w.drew _ b hlt).trans hbk
    rw [Lib.cell_of_heap this]; rfl
  have c3 : (w.alloc (.view ⟨g, 0, none⟩ 5)).drew.cell? ⟨b, 1, none⟩ = some (.slice (some ⟨g, 0, none⟩) 0 0) := c2
  have c0 : w.cell? ⟨b, 1, none⟩ = some (.slice (some ⟨g, 0, none⟩) 0 0) := c1
  have hmixed := mixed
  go_enter Tryd.func89, Tryd.ntmps89
  go_wp2
  go_region_o
  all_goals (go_wp2; go_ret; exact ⟨rfl, SPost.alloc _ w _⟩)

theorem stringOf (b : Nat) (p v : Value) (l : List UInt8) (w : World) (h : BAt b p v (Lib.byteCells l) w) :
    Calls Tryd.prog 89 #[.pointer (some ⟨b, 0, none⟩)] w fun e w' => e = .returned (.string ⟨l.toArray⟩) ∧ SPost v w w' := by
  have hown := h.own
  rw [Lib.byteCells_length] at hown
  rcases hown.2 with ⟨rfl, hz⟩ | ⟨g, cap, cur, rfl, _, hg, hnc, hcm, hcs, _⟩
  · obtain rfl := List.eq_nil_of_length_eq_zero hz
    exact string_nil b p w h.blk
  · by_cases hl : l = []
    · subst hl
      by_cases hc : cap = 0
      · subst hc
        exact string_noroom b g p cur w h.blk hg
      · exact string_room b g cap p w hc h.blk
    · exact string_some b g cap p cur l w hl h hg hnc hcm hcs
end Go.Proofs.YtiepbejeiijpmaaDoor

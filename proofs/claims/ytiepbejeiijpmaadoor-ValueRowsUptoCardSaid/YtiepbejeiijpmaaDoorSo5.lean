/-
  value.Sorted at few rows: walked. Conditions: none.
-/
import Derived.Test.YtiepbejeiijpmaaDoorSo4
namespace Go.Proofs.YtiepbejeiijpmaaDoor
open Go Go.Pe Go.Tab Go.RowKit Go.Sort Go.Proofs

theorem sorted_list {d d' : Array El} (hp : PermIn 0 d.size d d') (hs : SortedIn ltE 0 d.size d') : d'.toList.map (·.2) = sortF (d.toList.map (·.2)) := by
  obtain ⟨h1, _, h2⟩ := hp
  have e1 : d'.extract 0 d.size = d' := by rw [← h1]; simp
  have e2 : d.extract 0 d.size = d := by simp
  rw [e1, e2] at h2
  refine sortBy_unique ords_ord ?_ (h2.map _)
  unfold Rises
  rw [List.pairwise_map, List.pairwise_iff_getElem]
  intro i j hi hj hij
  simp only [Array.length_toList] at hi hj
  have := hs i j (Nat.zero_le _) hij (by omega)
  rw [getElem!_pos d' i (by omega), getElem!_pos d' j (by omega)] at this
  simp only [ltE, decide_eq_false_iff_not] at this
  have := ords_ord.anti d'[i].2 d'[j].2
  simp only [Array.getElem_toList]
  omega

/-- One more, where there is room. -/
theorem wp_append_room {P : Program} {w : World} {ops : Array Oper} {rest : List Oper} {o : Oper} {a : Act} {Q : Exit → Act → World → Prop} (hgd : o.guard = none) (sl x : Operand) (t : TypeId)
    (ho : o.op = .call { callee := .builtin .append, args := #[sl, x], argTypes := #[t, t] })
    (e : TypeId) (d : TD) (ht : P.underlying t = some (.slice e)) (hd : TT.of P e = some d) (hz : d.size = 1)
    (g n cap : Nat) (cur : Array Value) (hs : a.eval sl = .slice (some ⟨g, 0, none⟩) n cap) (hg : w.heap[g]? = some (.cells cur e (0, 0)))
    (b c : Nat) (u : Value) (hx : a.eval x = .slice (some ⟨b, 0, none⟩) 1 c) (hu : w.cell? ⟨b, 0, none⟩ = some u) (h1 : u.oneCell' = true) (hn : n < cap) (hc : cur.size = cap)
    (h : wpList P ops Q rest (a.put o.dst (.slice (some ⟨g, 0, none⟩) (n + 1) cap)) (w.setRow g (cur.toList.take n ++ [u] ++ cur.toList.drop (n + 1)).toArray)) : wpList P ops Q (o :: rest) a w := by
  refine wpList_plain hgd fun K hK => ?_
  obtain ⟨i, hi, hsz, _⟩ := (TT.of_ok hd).info
  have hr := run_append_room (P := P) w t o.type e i ht hi g n cap cur hg ⟨b, 0, none⟩ 1 c [u] (by rw [hsz, hz]; rfl) (fun j v hj => by
    match j, hj with
    | 0, hj => simp at hj; subst hj; simpa [Addr.add] using hu) (fun v hv => by simp at hv; subst hv; exact h1) (by omega) (by rw [hsz, hz]; simp; omega)
  rw [hsz, hz] at hr
  simp only [Nat.mul_one, List.length_cons, List.length_nil, Nat.zero_add] at hr
  unfold Oper.wp execOp
  simp only [ho, resolve, invoke, builtin, Sem.run_bind, Sem.run_pure, Result.andThen_ok, List.map_toArray, List.map_cons, List.map_nil, hs, hx, hr]
  exact hK _ _ h

/-- While rows are copied: so many are. -/
structure Copied (w : World) (l : List (List V)) (k : Nat) (wr : World) (cl : List El) (cur : Array Value) : Prop where
  blk : wr.heap[w.heap.size]? = some (.cells cur 28 (0, 0))
  size : cur.size = l.length
  rows : cl.map (·.2) = l.take k
  vals : cur.toList.take k = cl.map (·.1)
  ok : ∀ x ∈ cl, Rep (memN (w.heap.size + 1) wr) (rowC x.2) x.1
  below : Below w.heap.size w wr
  more : w.heap.size < wr.heap.size
theorem memN_le {lo : Nat} {W W' : World} (h : ∀ b, lo ≤ b → b < W.heap.size → W'.heap[b]? = W.heap[b]?) : (memN lo W).le (memN lo W') := fun b o v hv => by
  obtain ⟨h1, h2, h3⟩ := memN_some hv
  exact memN_at h1 ((World.cell?_of_block (a := ⟨b, o, none⟩) (h b h1 (World.block_lt_of_cell? (a := ⟨b, o, none⟩) W h2))).trans h2) h3
theorem memN_mono {lo lo' : Nat} (h : lo ≤ lo') (W : World) : (memN lo' W).le (memN lo W) := fun b o v hv => by
  obtain ⟨h1, h2, h3⟩ := memN_some hv
  exact memN_at (by omega) h2 h3

theorem Copied.next {w wr w2 : World} {l : List (List V)} {k : Nat} {cl : List El} {cur : Array Value} (h : Copied w l k wr cl cur) (hk : k < l.length) (hb : Below wr.heap.size wr w2) (u : Value) (hrep : Rep (memN wr.heap.size w2) (rowC l[k]) u) (o : Obj) :
    Copied w l (k + 1) ((w2.alloc o).setRow w.heap.size (cur.toList.take k ++ u :: cur.toList.drop (k + 1)).toArray) (cl ++ [(u, l[k])]) (cur.toList.take k ++ u :: cur.toList.drop (k + 1)).toArray := by
  have hB : (w2.alloc o).heap[w.heap.size]? = some (.cells cur 28 (0, 0)) := by
    rw [Lib.alloc_old w2 o _ (by have := hb.size; have := h.more; omega), hb.block _ h.more]
    exact h.blk
  have hsz := h.size
  have hold : ∀ b, b < w2.heap.size → b ≠ w.heap.size → ((w2.alloc o).setRow w.heap.size (cur.toList.take k ++ u :: cur.toList.drop (k + 1)).toArray).heap[b]? = w2.heap[b]? := fun b hb2 hne => by
    rw [setRow_other _ _ _ _ hne, Lib.alloc_old w2 o _ hb2]
  have e0 : cur.toList.take k ++ u :: cur.toList.drop (k + 1) = (cur.toList.take k ++ [u]) ++ cur.toList.drop (k + 1) := by simp
  exact {
    blk := setRow_heap _ _ _ _ _ _ hB
    size := by simp; omega
    rows := by
      rw [List.map_append, h.rows, List.take_succ_eq_append_getElem hk]
      rfl
    vals := by
      simp only [List.map_append, List.map_cons, List.map_nil, ← h.vals]
      rw [e0]
      exact List.take_left' (by simp; omega)
    ok := fun x hx => by
      rcases List.mem_append.1 hx with hx | hx
      · refine Rep.mono (memN_le fun b h1 h2 => ?_) _ _ (h.ok x hx)
        have h3 := hb.size
        rw [hold b (by omega) (by omega), hb.block b h2]
      · simp only [List.mem_singleton] at hx
        subst hx
        have h4 := h.more
        refine Rep.mono (Mem.le_trans (memN_le (W := w2) fun b h1 h2 => ?_) (memN_mono (by omega) _)) _ _ hrep
        exact hold b h2 (by omega)
    below := by
      have h3 := hb.size
      have h4 := h.below
      refine ⟨hb.os.trans h4.os, hb.tape.trans h4.tape, hb.output.trans h4.output, ?_, fun b hb2 => ?_⟩
      · have := h4.size
        simp [World.setRow]
        omega
      · have := h4.size
        rw [hold b (by omega) (by omega), hb.block b (by omega), h4.block b hb2]
    more := by
      have h3 := hb.size
      have h4 := h.more
      simp [World.setRow]
      omega }

theorem repL_rows {m : Mem} : ∀ q : List El, (∀ x ∈ q, Rep m (rowC x.2) x.1) → RepL m ((q.map (·.2)).map rowC) (q.map (·.1))
  | [], _ => rfl
  | x :: q, h => ⟨_, _, rfl, h x (List.mem_cons_self ..), repL_rows q fun y hy => h y (List.mem_cons_of_mem _ hy)⟩
theorem sorted_rep {w wr w3 : World} {l : List (List V)} {cl : List El} {cur : Array Value} {d' : Array El} (hI : Copied w l l.length wr cl cur) (hS : Sorted wr w.heap.size (memN (w.heap.size + 1) wr) cl.toArray w3 d') :
    Below w.heap.size w w3 ∧ Rep (memN w.heap.size w3) (rowsC (sortF l)) (.slice (some ⟨w.heap.size, 0, none⟩) l.length l.length) := by
  have hq := sorted_list hS.perm hS.rises
  have hrows := hI.rows
  rw [List.take_length] at hrows
  simp only [List.toList_toArray, hrows] at hq
  have hk := hS.arr.keeps
  have hb := hI.below
  have hlen : d'.size = l.length := by
    have h1 := hS.perm.1
    have h2 := congrArg List.length hrows
    simp at h1 h2
    omega
  refine ⟨⟨hk.os.trans hb.os, hk.tape.trans hb.tape, hk.output.trans hb.output, Nat.le_trans hb.size hk.size, fun b hb2 => ?_⟩, ?_⟩
  · have := hI.more
    rw [hk.block b (by omega) (by omega), hb.block b hb2]
  · have e : rowsC (sortF l) = .sl ((d'.toList.map (·.2)).map rowC) l.length := by
      rw [hq]
      unfold rowsC
      congr 1
      rw [← hq]
      simp [hlen]
    rw [e]
    refine rep_sl (repL_rows d'.toList fun x hx => ?_) (Nat.le_refl _) fun _ => ⟨w.heap.size, 0, rfl, fun i u hu => ?_⟩
    · obtain ⟨i, hi, rfl⟩ := List.mem_iff_getElem.1 hx
      simp only [Array.length_toList] at hi
      have := (hS.ok i hi).1
      rw [getElem!_pos d' i hi] at this
      rw [Array.getElem_toList]
      exact Rep.mono (Mem.le_trans (memN_le fun b h1 h2 => hk.block b h2 (by omega)) (memN_mono (by omega) _)) _ _ this
    · rw [List.getElem?_map] at hu
      obtain ⟨x, hx, rfl⟩ := Option.map_eq_some_iff.1 hu
      obtain ⟨hi, rfl⟩ := List.getElem?_eq_some_iff.1 hx
      simp only [Array.length_toList] at hi
      have h2 := hS.arr.c1 i hi
      rw [getElem!_pos d' i hi] at h2
      rw [Array.getElem_toList, Nat.zero_add]
      have h3 := hS.ok i hi
      rw [getElem!_pos d' i hi] at h3
      obtain ⟨a, n, c, r, e3⟩ := h3.slice
      refine memN_at (Nat.le_refl _) h2 ?_
      rw [e3]
      rfl

set_option maxHeartbeats 4000000 in
set_option maxRecDepth 100000 in
theorem sorted_walk {m : Mem} (l : List (List V)) (v : Value) (w : World) (hT : GT.holds w) (hm : ∀ b o u, m b o = some u → w.cell? ⟨b, o, none⟩ = some u ∧ u.oneCell' = true) (hv : Rep m (rowsC l) v)
    (hl : l.length < 20) (hr : ∀ r ∈ l, r.length ≤ 1048576) :
    Calls Tryd.prog 41 #[v] w fun e w' => ∃ v', e = .returned v' ∧ Below w.heap.size w w' ∧ Rep (memN w.heap.size w') (rowsC (sortF l)) v' := by
  obtain ⟨A, cap, vs, rfl, hcap, hvl, hcell⟩ := hv
  have h1 : ∀ u ∈ vs, u.oneCell' = true := fun u hu => by
    obtain ⟨b, o, _, hc⟩ := hcell (by rintro rfl; cases hu)
    obtain ⟨i, hi⟩ := List.mem_iff_getElem?.1 hu
    exact (hm _ _ _ (hc i u hi)).2
  have hlen : vs.length = l.length := by rw [hvl.length]; simp
  obtain ⟨i0, hi, hz1, hz2, hz3⟩ : ∃ i, Tryd.prog.info? 28 = some i ∧ i.zero = some (.slice none 0 0) ∧ i.size = 1 ∧ i.bytes = 24 := by
    have h0 : (Tryd.prog.info? 28).map (fun i => (i.zero, i.size, i.bytes)) = some (some (.slice none 0 0), 1, 24) := by kernel_rfl
    obtain ⟨i, hi, he⟩ := Option.map_eq_some_iff.1 h0
    simp only [Prod.mk.injEq] at he
    exact ⟨i, hi, he⟩
  obtain ⟨cur0, hcur0, hmk⟩ : ∃ cur0 : Array Value, cur0.size = l.length ∧ ∀ w, (Instr.makeSlice 22 (.int .i64 0) (.int .i64 (l.length : Int))).run Tryd.prog w = .ok (.slice (some ⟨w.heap.size, 0, none⟩) 0 l.length) (w.alloc (.cells cur0 28)) := by
    refine ⟨madeCells (Value.slice none 0 0).cells l.length, size_madeCells _ _, fun w => ?_⟩
    have := run_makeSlice (P := Tryd.prog) w 22 28 i0 (.slice none 0 0) Tryd.underlying22 hi hz1 .i64 .i64 0 l.length (Int.le_refl _) (by omega) (by rw [hz2]; simp; omega) (by rw [hz3]; omega) (by omega)
    rw [hz2] at this
    simpa using this
  have HM : Aside _ := hm
  have HT : Aside _ := hT
  have HC : Aside _ := hcell
  have HV : Aside _ := hvl
  have HR : Aside _ := hr
  have H1 : Aside _ := h1
  have I0 : Aside (Copied w l 0 (w.alloc (.cells cur0 28)) [] cur0) := ⟨heap_alloc_new w _, hcur0, by simp, by simp, by simp, (Below.refl _ w).alloc (Nat.le_refl _) _, by simp⟩
  clear hm hT hcell hvl hr h1 hi hz1 hz2 hz3
  go_enter Tryd.func41, Tryd.ntmps41
  go_wp2
  clear hmk
  go_loopg [3, 11] l.length (fun g v3 v11 wr => ∃ (k : Nat) (cl : List El) (cur : Array Value), v3 = .slice (some ⟨w.heap.size, 0, none⟩) k l.length ∧ v11 = .int .i64 k ∧ k ≤ l.length ∧ l.length - k ≤ g ∧ Aside (Copied w l k wr cl cur))
  case atStart => exact ⟨0, [], cur0, rfl, by go_num, by omega, by omega, I0⟩
  case round =>
    clear I0
    obtain ⟨k, cl, cur, rfl, rfl, hk, hg, IC⟩ := hrel
    by_cases hlt : k < l.length
    · have hltz : (k : Int) < (l.length : Int) := by omega
      obtain ⟨u, hu, hru⟩ := HV.out.get k (rowC l[k]) (by simp [hlt])
      obtain ⟨lb, lo, rfl, hc⟩ := HC.out (by rintro rfl; simp at hlen; omega)
      have hc1 := HM.out _ _ _ (hc k u hu)
      have hlb := World.block_lt_of_cell? (a := ⟨lb, lo + k, none⟩) w hc1.1
      have hc2 : wr.cell? ⟨lb, lo + k, none⟩ = some u := (World.cell?_of_block (a := ⟨lb, lo + k, none⟩) (IC.out.below.block _ hlb)).trans hc1.1
      have cC := clone_walk (m := m) l[k] u wr (fun b o z hz => by
        obtain ⟨g1, g2⟩ := HM.out b o z hz
        exact ⟨(World.cell?_of_block (a := ⟨b, o, none⟩) (IC.out.below.block _ (World.block_lt_of_cell? (a := ⟨b, o, none⟩) w g1))).trans g1, g2⟩) hru (HR.out _ (List.getElem_mem hlt))
      clear hc hc1
      obtain ⟨ua, ucap, _, rfl, _⟩ := hru
      have e1 : ((k : Int)).toNat = k := by omega
      have p1 : (0 : Int) ≤ (k : Int) := by omega
      clear hu
      go_wp2_with (go_at_call 69; refine cC.mono ?_)
      clear cC
      rintro e w2 v' rfl hb2 hrep va vn vc rfl
      have IN : Aside _ := IC.out.next hlt hb2 _ hrep (.cells #[.slice va vn vc] 28)
      have hB2 : (w2.alloc (.cells #[.slice va vn vc] 28)).heap[w.heap.size]? = some (.cells cur 28 (0, 0)) := by
        rw [Lib.alloc_old w2 _ _ (by have := hb2.size; have := IC.out.more; omega), hb2.block _ IC.out.more]
        exact IC.out.blk
      have hcs := IC.out.size
      clear hrep hb2 hc2 IC
      go_wp2_with (at_builtin; refine wp_append_room rfl _ _ 22 rfl 28 _ Tryd.underlying22 T28 rfl w.heap.size k l.length cur rfl hB2 w2.heap.size 1 (.slice va vn vc) rfl ?c1 rfl hlt hcs ?_)
      case c1 => simp
      go_roundg (l.length - (k + 1))
      case measure => omega
      case rel => exact ⟨k + 1, _, _, rfl, by go_num, by omega, by omega, IN⟩
    · obtain rfl : k = l.length := by omega
      have hltz : ¬ (l.length : Int) < (l.length : Int) := by omega
      have hcl : cl.length = l.length := by
        have := congrArg List.length IC.out.rows
        simpa using this
      have hsize : cl.toArray.size = l.length := by simpa using hcl
      have hT2 : GT.holds wr := GT.keep w wr HT.out fun b hb => IC.out.below.block b (GT.lt HT.out hb)
      have hK : At wr w.heap.size (memN (w.heap.size + 1) wr) := ⟨fun b o v hv => by
        obtain ⟨g1, g2, g3⟩ := memN_some hv
        exact ⟨by omega, g2, g3⟩, hT2, fun b hb => by have := GT.lt HT.out hb; omega, IC.out.more⟩
      have hA : Arr wr w.heap.size cl.toArray wr := ⟨by
        rw [IC.out.blk]
        have e1 : cur = cl.toArray.map (·.1) := by
          apply Array.toList_inj.1
          have := IC.out.vals
          rw [List.take_of_length_le (by have := IC.out.size; simp; omega)] at this
          simpa using this
        rw [e1], Keeps.refl _ _⟩
      have hO : AllOk (memN (w.heap.size + 1) wr) cl.toArray := fun i hi => by
        have hi' : i < cl.length := by simpa using hi
        rw [getElem!_pos cl.toArray i hi]
        have hmem : cl[i] ∈ cl := List.getElem_mem hi'
        refine ⟨by simpa using IC.out.ok _ hmem, ?_⟩
        have h2 : cl[i].2 ∈ cl.map (·.2) := List.mem_map_of_mem hmem
        rw [IC.out.rows, List.take_length] at h2
        simpa using HR.out _ h2
      have cS := sortStable_walk hK hA hO l.length (by omega)
      rw [hsize] at cS
      have HI : Aside _ := And.intro IC.out hsize
      clear hT2 hK hA hO IC hsize
      go_wp2_with (go_at_call 70; refine cS.mono ?_)
      clear cS
      rintro e w3 rfl d' hS
      have HS : Aside _ := sorted_rep HI.out.1 hS
      clear hS
      go_wp2
      go_ret
      exact ⟨_, rfl, HS.out⟩
end Go.Proofs.YtiepbejeiijpmaaDoor

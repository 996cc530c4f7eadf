/-
  A row's name, by the evaluator. Conditions: none.
-/
import Derived.Test.YtiepbejeiijpmaaDoorPa9
import Derived.Test.YtiepbejeiijpmaaDoorRows
import Derived.Deep.Slices
import Derived.Carry
import Derived.ReadAgain
import Derived.Test.YtiepbejeiijpmaaDoorCards
import Derived.Test.YtiepbejeiijpmaaDoorTie
import Derived.WalkKit
import Derived.ProofKit
import Derived.OpenShut
import Derived.Deep.DeepHandedRow
import Derived.Lib.LaidTab
import Derived.Shelf.Vars
namespace Go.Srt
open Go.Sort
variable {α : Type} [Inhabited α] {lt : α → α → Bool} {d d' : Array α}

/-- From a on, each block of s elements is sorted; the last one may be shorter. -/
inductive Blks (lt : α → α → Bool) (s n : Nat) (d : Array α) : Nat → Prop
  | done (a : Nat) (h : n ≤ a) : Blks lt s n d a
  | step (a : Nat) (h : a < n) (h1 : SortedIn lt a (min (a + s) n) d) (h2 : Blks lt s n d (a + s)) : Blks lt s n d a
/-- Up to a, each block of s elements is sorted. -/
inductive Front (lt : α → α → Bool) (s : Nat) (d : Array α) : Nat → Prop
  | zero : Front lt s d 0
  | snoc (a : Nat) (h : Front lt s d a) (h1 : SortedIn lt a (a + s) d) : Front lt s d (a + s)

theorem sorted_keep {a b : Nat} (S : SortedIn lt a b d) (h : ∀ t, a ≤ t → t < b → d'[t]! = d[t]!) : SortedIn lt a b d' := fun i j h1 h2 h3 => by
  rw [h i h1 (by omega), h j (by omega) h3]
  exact S i j h1 h2 h3
theorem Blks.keep {s n a : Nat} (H : Blks lt s n d a) : (∀ t, a ≤ t → d'[t]! = d[t]!) → Blks lt s n d' a := by
  induction H with
  | done a h => exact fun _ => .done a h
  | step a h h1 h2 ih => exact fun k => .step a h (sorted_keep h1 fun t k1 _ => k t k1) (ih fun t k1 => k t (by omega))
theorem Front.keep {s a : Nat} (H : Front lt s d a) : (∀ t, t < a → d'[t]! = d[t]!) → Front lt s d' a := by
  induction H with
  | zero => exact fun _ => .zero
  | snoc a h h1 ih => exact fun k => .snoc a (ih fun t k1 => k t (by omega)) (sorted_keep h1 fun t _ k2 => k t k2)
theorem Front.all {s n a : Nat} (H : Front lt s d a) : Blks lt s n d a → a ≤ n → Blks lt s n d 0 := by
  induction H with
  | zero => exact fun h _ => h
  | snoc a h h1 ih =>
    intro h2 h3
    by_cases e : a < n
    · exact ih (.step a e (by rw [Nat.min_eq_left h3]; exact h1) h2) (by omega)
    · exact ih (.done a (by omega)) (by omega)
theorem Blks.two {s n a : Nat} (H : Blks lt s n d a) (h : a + s < n) : SortedIn lt a (a + s) d ∧ SortedIn lt (a + s) (min (a + s + s) n) d ∧ Blks lt s n d (a + s + s) := by
  cases H with
  | done _ h0 => omega
  | step _ _ h1 h2 =>
    rw [Nat.min_eq_left (by omega)] at h1
    cases h2 with
    | done _ h0 => omega
    | step _ _ h3 h4 => exact ⟨h1, h3, h4⟩
theorem Blks.one {s n a : Nat} (H : Blks lt s n d a) (h : n ≤ a + s) : SortedIn lt a n d := by
  cases H with
  | done _ h0 => exact fun i j h1 h2 h3 => by omega
  | step _ _ h1 h2 => rwa [Nat.min_eq_right h] at h1
theorem Blks.last {s n a : Nat} (S : SortedIn lt a n d) (h : n ≤ a + s) : Blks lt s n d a := by
  by_cases e : a < n
  · exact .step a e (by rw [Nat.min_eq_right h]; exact S) (.done _ h)
  · exact .done a (by omega)
end Go.Srt
namespace Go.Proofs.YtiepbejeiijpmaaDoor
open Go Go.Pe Go.Tab Go.RowKit Go.Sort Go.Proofs Go.Srt

/-- What sorting leaves. -/
structure Sorted (w0 : World) (B : Nat) (m : Mem) (d : Array El) (w' : World) (d' : Array El) : Prop where
  arr : Arr w0 B d' w'
  ok : AllOk m d'
  perm : PermIn 0 d.size d d'
  rises : SortedIn ltE 0 d.size d'

theorem symMerge_walk {w0 : World} {B : Nat} {m : Mem} (K : At w0 B m) (cap n : Nat) (hsz : n < 4611686018427387904) : ∀ (N a c b : Nat) (dk : Array El) (wk : World), b - a ≤ N → a < c → c < b → b ≤ n → dk.size = n → Arr w0 B dk wk → AllOk m dk → SortedIn ltE a c dk → SortedIn ltE c b dk → Goes w0 B m n cap a c b dk wk := by
  intro N
  induction N with
  | zero => intro a c b dk wk h h1 h2; omega
  | succ N ih =>
    intro a c b dk wk h hac hcb hb hs A O hl hr
    subst hs
    by_cases e1 : c = a + 1
    · subst e1
      have := mergeLeft_walk K A O cap a b hcb hb hsz hr
      unfold Goes
      rw [Int.natCast_add]
      exact this
    · by_cases e2 : b = c + 1
      · subst e2
        have := mergeRight_walk K A O cap a c (by omega) hb hsz hl
        unfold Goes
        rw [Int.natCast_add c 1]
        exact this
      · exact symMerge_far K A O cap a c b (by omega) (by omega) hb hsz hl hr fun a' c' b' dk' wk' g1 g2 g3 g4 g5 g6 g7 g8 g9 => ih a' c' b' dk' wk' (by omega) g2 g3 g4 g5 g6 g7 g8 g9

theorem lower {a b : Nat} {d d' : Array El} (p : PermIn a b d d') : ∀ t, t < a → d'[t]! = d[t]! := fun t h => p.2.1 t (.inl h)
theorem upper {a b : Nat} {d d' : Array El} (p : PermIn a b d d') : ∀ t, b ≤ t → d'[t]! = d[t]! := fun t h => p.2.1 t (.inr h)

set_option maxHeartbeats 32000000 in
set_option maxRecDepth 1000000 in
theorem stableAll_walk {w0 w : World} {B : Nat} {m : Mem} {d : Array El} (K : At w0 B m) (A : Arr w0 B d w) (O : AllOk m d) (cap : Nat) (hsz : d.size ≤ 1048576) :
    Calls Tryd.prog 85 #[.slice (some ⟨B, 0, none⟩) d.size cap, .int .i64 d.size, .func (.func 40) #[] #[]] w fun e w' => e = .returned (.tuple #[]) ∧ ∃ d', Sorted w0 B m d w' d' := by
  have mixed : Tryd.prog.follows .mixedOrders = true := mixed
  have S0 : Aside (Now w0 B m d 0 d.size d w ∧ Front ltE 20 d 0) := ⟨Now.start A O _ _, .zero⟩
  have HK : Aside _ := K
  clear A O K
  go_enter Tryd.func85, Tryd.ntmps85
  go_wp2
  go_loopg [7, 8] d.size (fun g v v' wr => ∃ (a : Nat) (dk : Array El), v = .int .i64 a ∧ v' = .int .i64 ((a : Int) + 20) ∧ a ≤ d.size ∧ d.size - a ≤ g ∧ Aside (Now w0 B m d 0 d.size dk wr ∧ Front ltE 20 dk a))
  case atStart => exact ⟨0, d, by go_num, by go_num, by omega, by omega, S0⟩
  case round =>
    clear S0
    obtain ⟨a, dk, rfl, rfl, ha, hg, S1⟩ := hrel
    have hsk := S1.out.1.size
    have r20 : IntKind.i64.wrap ((a : Int) + 20 + 20) = (a : Int) + 20 + 20 := by rw [IntKind.wrap_i64]; omega
    by_cases hlt : a + 20 ≤ d.size
    · have hltz : (a : Int) + 20 ≤ (d.size : Int) := by omega
      have hc := insertionSort_walk HK.out S1.out.1.arr S1.out.1.ok cap a (a + 20) (by omega) (by omega) (by omega)
      have hs := insertionSort_holds ltE_swo dk a (a + 20) (by omega) (by omega)
      rw [hsk, Int.natCast_add] at hc
      have HS : Aside _ := hs
      clear hs
      go_wp2_with (go_at_call 96; refine hc.mono ?_)
      clear hc
      (first | rintro _ w2 rfl hA hO | rintro _ w2 ⟨rfl, hA, hO⟩)
      generalize hd2 : insertionSort ltE dk a (a + 20) = d2 at HS hA hO
      have S2 : Aside (Now w0 B m d 0 d.size d2 w2 ∧ Front ltE 20 d2 (a + 20)) := ⟨⟨hA, hO, permIn_trans _ _ _ _ _ S1.out.1.perm (permIn_mono dk d2 a (a + 20) 0 d.size (Nat.zero_le _) hlt (by omega) HS.out.1)⟩, .snoc a (S1.out.2.keep (lower HS.out.1)) HS.out.2⟩
      clear hA hO hd2 HS S1
      go_wp2
      go_roundg (d.size - (a + 20))
      case measure => omega
      case rel => exact ⟨a + 20, d2, by go_num, by go_num, hlt, by omega, S2⟩
    · have hltz : ¬ (a : Int) + 20 ≤ (d.size : Int) := by omega
      have hc := insertionSort_walk HK.out S1.out.1.arr S1.out.1.ok cap a d.size (by omega) (by omega) (by omega)
      have hs := insertionSort_holds ltE_swo dk a d.size (by omega) (by omega)
      rw [hsk] at hc
      have HS : Aside _ := hs
      clear hs
      go_wp2_with (go_at_call 96; refine hc.mono ?_)
      clear hc
      (first | rintro _ w2 rfl hA hO | rintro _ w2 ⟨rfl, hA, hO⟩)
      generalize hd2 : insertionSort ltE dk a d.size = d2 at HS hA hO
      have S2 : Aside (Now w0 B m d 0 d.size d2 w2 ∧ Blks ltE 20 d.size d2 0) := ⟨⟨hA, hO, permIn_trans _ _ _ _ _ S1.out.1.perm (permIn_mono dk d2 a d.size 0 d.size (Nat.zero_le _) (Nat.le_refl _) (by omega) HS.out.1)⟩, (S1.out.2.keep (lower HS.out.1)).all (.last HS.out.2 (by omega)) ha⟩
      clear hA hO hd2 HS S1 r20
      go_wp2
      go_loopg [6, 7, 8, 9] d.size (fun g v va vb vm wr => ∃ (s : Nat) (dk : Array El), v = .int .i64 s ∧ 20 ≤ s ∧ s ≤ 2097152 ∧ d.size - s ≤ g ∧ Aside (Now w0 B m d 0 d.size dk wr ∧ Blks ltE s d.size dk 0))
      case atStart => exact ⟨20, d2, by go_num, by omega, by omega, by omega, S2⟩
      case round =>
        clear S2
        obtain ⟨s, dk3, rfl, hs0, hs1, hg3, S3⟩ := hrel
        by_cases hlt3 : s < d.size
        · have hltz3 : (s : Int) < (d.size : Int) := by omega
          have r2s : IntKind.i64.wrap (2 * (s : Int)) = 2 * (s : Int) := by rw [IntKind.wrap_i64]; omega
          have rs2 : IntKind.i64.wrap ((s : Int) * 2) = (s : Int) * 2 := by rw [IntKind.wrap_i64]; omega
          have S4 : Aside (Now w0 B m d 0 d.size dk3 wr ∧ Front ltE (s + s) dk3 0 ∧ Blks ltE s d.size dk3 0) := ⟨S3.out.1, .zero, S3.out.2⟩
          clear S3
          go_wp2
          go_loopg [7, 8] d.size (fun g v v' wr => ∃ (a : Nat) (dk : Array El), v = .int .i64 a ∧ v' = .int .i64 ((a : Int) + 2 * (s : Int)) ∧ a ≤ d.size ∧ d.size - a ≤ g ∧ Aside (Now w0 B m d 0 d.size dk wr ∧ Front ltE (s + s) dk a ∧ Blks ltE s d.size dk a))
          case atStart => exact ⟨0, dk3, by go_num, by congr 1; omega, by omega, by omega, S4⟩
          case round =>
            clear S4
            obtain ⟨a, dk, rfl, rfl, ha4, hg4, S5⟩ := hrel
            have hsk5 := S5.out.1.size
            have ras : IntKind.i64.wrap ((a : Int) + (s : Int)) = (a : Int) + (s : Int) := by rw [IntKind.wrap_i64]; omega
            have ra4 : IntKind.i64.wrap ((a : Int) + 2 * (s : Int) + 2 * (s : Int)) = (a : Int) + 2 * (s : Int) + 2 * (s : Int) := by rw [IntKind.wrap_i64]; omega
            by_cases c5 : a + s + s ≤ d.size
            · have c5z : (a : Int) + 2 * (s : Int) ≤ (d.size : Int) := by omega
              obtain ⟨b1, b2, b3⟩ := S5.out.2.2.two (by omega)
              rw [Nat.min_eq_left c5] at b2
              have hc := symMerge_walk HK.out cap d.size (by omega) _ a (a + s) (a + s + s) dk wr (Nat.le_refl _) (by omega) (by omega) c5 hsk5 S5.out.1.arr S5.out.1.ok b1 b2
              unfold Goes at hc
              have e1 : ((a + s : Nat) : Int) = (a : Int) + (s : Int) := by omega
              have e2 : ((a + s + s : Nat) : Int) = (a : Int) + 2 * (s : Int) := by omega
              rw [e1, e2] at hc
              have HB3 : Aside _ := b3
              clear b1 b2 b3 e1 e2
              go_wp2_with (go_at_call 97; refine hc.mono ?_)
              clear hc
              (first | rintro _ w2 rfl d5 hN hS | rintro _ w2 ⟨rfl, d5, hN, hS⟩)
              have S6 : Aside (Now w0 B m d 0 d.size d5 w2 ∧ Front ltE (s + s) d5 (a + (s + s)) ∧ Blks ltE s d.size d5 (a + (s + s))) := ⟨S5.out.1.then hN (Nat.zero_le _) c5 (Nat.le_refl _), .snoc a (S5.out.2.1.keep (lower hN.perm)) (by rw [← Nat.add_assoc]; exact hS), by rw [← Nat.add_assoc]; exact HB3.out.keep (upper hN.perm)⟩
              clear hN hS HB3 S5
              go_wp2
              go_roundg (d.size - (a + (s + s)))
              case measure => omega
              case rel => exact ⟨a + (s + s), d5, by congr 1; omega, by congr 1; omega, by omega, by omega, S6⟩
            · have c5z : ¬ (a : Int) + 2 * (s : Int) ≤ (d.size : Int) := by omega
              by_cases c6 : a + s < d.size
              · have c6z : (a : Int) + (s : Int) < (d.size : Int) := by omega
                obtain ⟨b1, b2, b3⟩ := S5.out.2.2.two c6
                rw [Nat.min_eq_right (by omega)] at b2
                have hc := symMerge_walk HK.out cap d.size (by omega) _ a (a + s) d.size dk wr (Nat.le_refl _) (by omega) c6 (Nat.le_refl _) hsk5 S5.out.1.arr S5.out.1.ok b1 b2
                unfold Goes at hc
                have e1 : ((a + s : Nat) : Int) = (a : Int) + (s : Int) := by omega
                rw [e1] at hc
                clear b1 b2 b3 e1
                go_wp2_with (go_at_call 97; refine hc.mono ?_)
                clear hc
                (first | rintro _ w2 rfl d5 hN hS | rintro _ w2 ⟨rfl, d5, hN, hS⟩)
                have S6 : Aside (Now w0 B m d 0 d.size d5 w2 ∧ Blks ltE (s + s) d.size d5 0) := ⟨S5.out.1.then hN (Nat.zero_le _) (Nat.le_refl _) (Nat.le_refl _), (S5.out.2.1.keep (lower hN.perm)).all (.last hS (by omega)) ha4⟩
                clear hN hS S5
                go_wp2
                go_roundg (d.size - (s + s))
                case measure => omega
                case rel => exact ⟨s + s, d5, by congr 1; omega, by omega, by omega, by omega, S6⟩
              · have c6z : ¬ (a : Int) + (s : Int) < (d.size : Int) := by omega
                have S6 : Aside (Now w0 B m d 0 d.size dk wr ∧ Blks ltE (s + s) d.size dk 0) := ⟨S5.out.1, S5.out.2.1.all (.last (S5.out.2.2.one (by omega)) (by omega)) ha4⟩
                clear S5
                go_wp2
                go_roundg (d.size - (s + s))
                case measure => omega
                case rel => exact ⟨s + s, dk, by congr 1; omega, by omega, by omega, by omega, S6⟩
        · have hltz3 : ¬ (s : Int) < (d.size : Int) := by omega
          go_wp2
          go_end0
          exact ⟨rfl, dk3, S3.out.1.arr, S3.out.1.ok, S3.out.1.perm, S3.out.2.one (by omega)⟩
end Go.Proofs.YtiepbejeiijpmaaDoor
namespace Go.Proofs.YtiepbejeiijpmaaDoor
open Go Go.Pe Go.Tab Go.RowKit Go.Sort Go.Proofs

set_option maxHeartbeats 4000000 in
set_option maxRecDepth 100000 in
theorem sortStable_walk {w0 w : World} {B : Nat} {m : Mem} {d : Array El} (K : At w0 B m) (A : Arr w0 B d w) (O : AllOk m d) (cap : Nat) (hsz : d.size ≤ 1048576) :
    Calls Tryd.prog 70 #[.slice (some ⟨B, 0, none⟩) d.size cap, .func (.func 40) #[] #[]] w fun e w' => e = .returned (.tuple #[]) ∧ ∃ d', Sorted w0 B m d w' d' := by
  have hc := stableAll_walk K A O cap hsz
  clear K A O
  go_enter Tryd.func70, Tryd.ntmps70
  go_wp2_with (go_at_call 85; refine hc.mono ?_)
  rintro e w1 ⟨rfl, h⟩
  go_wp2
  go_end0
  exact ⟨rfl, h⟩
end Go.Proofs.YtiepbejeiijpmaaDoor
namespace Go.Proofs.YtiepbejeiijpmaaDoor
open Go Go.Pe Go.Tab Go.RowKit Go.Sort Go.Proofs

theorem sorted_list {d d' : Array El} (hp : PermIn 0 d.size d d') (hs : SortedIn ltE 0 d.size d') : d'.toList.map (·.2) = sortF (d.toList.map (·.2)) := by
  obtain ⟨h1, _, h2⟩ := hp
  have e1 : d'.extract 0 d.size = d' := by rw [← h1]; simp
  have e2 : d.extract 0 d.size = d := by simp
  rw [e1, e2] at h2
  refine sortBy_unique ords_ord ?_ (h2.map _)
  unfold Rises
  rw [List.pairwise_map, List.pairwise_iff_getElem]
  intro i j hi hj hij
  simp only [Array.length_toList] at hi hj
  have := hs i j (Nat.zero_le _) hij (by omega)
  rw [getElem!_pos d' i (by omega), getElem!_pos d' j (by omega)] at this
  simp only [ltE, decide_eq_false_iff_not] at this
  have := ords_ord.anti d'[i].2 d'[j].2
  simp only [Array.getElem_toList]
  omega

/-- One more, where there is room. -/
theorem wp_append_room {P : Program} {w : World} {ops : Array Oper} {rest : List Oper} {o : Oper} {a : Act} {Q : Exit → Act → World → Prop} (hgd : o.guard = none) (sl x : Operand) (t : TypeId)
    (ho : o.op = .call { callee := .builtin .append, args := #[sl, x], argTypes := #[t, t] })
    (e : TypeId) (d : TD) (ht : P.underlying t = some (.slice e)) (hd : TT.of P e = some d) (hz : d.size = 1)
    (g n cap : Nat) (cur : Array Value) (hs : a.eval sl = .slice (some ⟨g, 0, none⟩) n cap) (hg : w.heap[g]? = some (.cells cur e (0, 0)))
    (b c : Nat) (u : Value) (hx : a.eval x = .slice (some ⟨b, 0, none⟩) 1 c) (hu : w.cell? ⟨b, 0, none⟩ = some u) (h1 : u.oneCell' = true) (hn : n < cap) (hc : cur.size = cap)
    (h : wpList P ops Q rest (a.put o.dst (.slice (some ⟨g, 0, none⟩) (n + 1) cap)) (w.setRow g (cur.toList.take n ++ [u] ++ cur.toList.drop (n + 1)).toArray)) : wpList P ops Q (o :: rest) a w := by
  refine wpList_plain hgd fun K hK => ?_
  obtain ⟨i, hi, hsz, _⟩ := (TT.of_ok hd).info
  have hr := run_append_room (P := P) w t o.type e i ht hi g n cap cur hg ⟨b, 0, none⟩ 1 c [u] (by rw [hsz, hz]; rfl) (fun j v hj => by
    match j, hj with
    | 0, hj => simp at hj; subst hj; simpa [Addr.add] using hu) (fun v hv => by simp at hv; subst hv; exact h1) (by omega) (by rw [hsz, hz]; simp; omega)
  rw [hsz, hz] at hr
  simp only [Nat.mul_one, List.length_cons, List.length_nil, Nat.zero_add] at hr
  unfold Oper.wp execOp
  simp only [ho, resolve, invoke, builtin, Sem.run_bind, Sem.run_pure, Result.andThen_ok, List.map_toArray, List.map_cons, List.map_nil, hs, hx, hr]
  exact hK _ _ h

/-- While rows are copied: so many are. -/
structure Copied (w : World) (l : List (List V)) (k : Nat) (wr : World) (cl : List El) (cur : Array Value) : Prop where
  blk : wr.heap[w.heap.size]? = some (.cells cur 28 (0, 0))
  size : cur.size = l.length
  rows : cl.map (·.2) = l.take k
  vals : cur.toList.take k = cl.map (·.1)
  ok : ∀ x ∈ cl, Rep (memN (w.heap.size + 1) wr) (rowC x.2) x.1
  below : Below w.heap.size w wr
  more : w.heap.size < wr.heap.size
theorem memN_le {lo : Nat} {W W' : World} (h : ∀ b, lo ≤ b → b < W.heap.size → W'.heap[b]? = W.heap[b]?) : (memN lo W).le (memN lo W') := fun b o v hv => by
  obtain ⟨h1, h2, h3⟩ := memN_some hv
  exact memN_at h1 ((World.cell?_of_block (a := ⟨b, o, none⟩) (h b h1 (World.block_lt_of_cell? (a := ⟨b, o, none⟩) W h2))).trans h2) h3
theorem memN_mono {lo lo' : Nat} (h : lo ≤ lo') (W : World) : (memN lo' W).le (memN lo W) := fun b o v hv => by
  obtain ⟨h1, h2, h3⟩ := memN_some hv
  exact memN_at (by omega) h2 h3

theorem Copied.next {w wr w2 : World} {l : List (List V)} {k : Nat} {cl : List El} {cur : Array Value} (h : Copied w l k wr cl cur) (hk : k < l.length) (hb : Below wr.heap.size wr w2) (u : Value) (hrep : Rep (memN wr.heap.size w2) (rowC l[k]) u) (o : Obj) :
    Copied w l (k + 1) ((w2.alloc o).setRow w.heap.size (cur.toList.take k ++ u :: cur.toList.drop (k + 1)).toArray) (cl ++ [(u, l[k])]) (cur.toList.take k ++ u :: cur.toList.drop (k + 1)).toArray := by
  have hB : (w2.alloc o).heap[w.heap.size]? = some (.cells cur 28 (0, 0)) := by
    rw [Lib.alloc_old w2 o _ (by have := hb.size; have := h.more; omega), hb.block _ h.more]
    exact h.blk
  have hsz := h.size
  have hold : ∀ b, b < w2.heap.size → b ≠ w.heap.size → ((w2.alloc o).setRow w.heap.size (cur.toList.take k ++ u :: cur.toList.drop (k + 1)).toArray).heap[b]? = w2.heap[b]? := fun b hb2 hne => by
    rw [setRow_other _ _ _ _ hne, Lib.alloc_old w2 o _ hb2]
  have e0 : cur.toList.take k ++ u :: cur.toList.drop (k + 1) = (cur.toList.take k ++ [u]) ++ cur.toList.drop (k + 1) := by simp
  exact {
    blk := setRow_heap _ _ _ _ _ _ hB
    size := by simp; omega
    rows := by
      rw [List.map_append, h.rows, List.take_succ_eq_append_getElem hk]
      rfl
    vals := by
      simp only [List.map_append, List.map_cons, List.map_nil, ← h.vals]
      rw [e0]
      exact List.take_left' (by simp; omega)
    ok := fun x hx => by
      rcases List.mem_append.1 hx with hx | hx
      · refine Rep.mono (memN_le fun b h1 h2 => ?_) _ _ (h.ok x hx)
        have h3 := hb.size
        rw [hold b (by omega) (by omega), hb.block b h2]
      · simp only [List.mem_singleton] at hx
        subst hx
        have h4 := h.more
        refine Rep.mono (Mem.le_trans (memN_le (W := w2) fun b h1 h2 => ?_) (memN_mono (by omega) _)) _ _ hrep
        exact hold b h2 (by omega)
    below := by
      have h3 := hb.size
      have h4 := h.below
      refine ⟨hb.os.trans h4.os, hb.tape.trans h4.tape, hb.output.trans h4.output, ?_, fun b hb2 => ?_⟩
      · have := h4.size
        simp [World.setRow]
        omega
      · have := h4.size
        rw [hold b (by omega) (by omega), hb.block b (by omega), h4.block b hb2]
    more := by
      have h3 := hb.size
      have h4 := h.more
      simp [World.setRow]
      omega }

theorem repL_rows {m : Mem} : ∀ q : List El, (∀ x ∈ q, Rep m (rowC x.2) x.1) → RepL m ((q.map (·.2)).map rowC) (q.map (·.1))
  | [], _ => rfl
  | x :: q, h => ⟨_, _, rfl, h x (List.mem_cons_self ..), repL_rows q fun y hy => h y (List.mem_cons_of_mem _ hy)⟩
theorem sorted_rep {w wr w3 : World} {l : List (List V)} {cl : List El} {cur : Array Value} {d' : Array El} (hI : Copied w l l.length wr cl cur) (hS : Sorted wr w.heap.size (memN (w.heap.size + 1) wr) cl.toArray w3 d') :
    Below w.heap.size w w3 ∧ Rep (memN w.heap.size w3) (rowsC (sortF l)) (.slice (some ⟨w.heap.size, 0, none⟩) l.length l.length) := by
  have hq := sorted_list hS.perm hS.rises
  have hrows := hI.rows
  rw [List.take_length] at hrows
  simp only [List.toList_toArray, hrows] at hq
  have hk := hS.arr.keeps
  have hb := hI.below
  have hlen : d'.size = l.length := by
    have h1 := hS.perm.1
    have h2 := congrArg List.length hrows
    simp at h1 h2
    omega
  refine ⟨⟨hk.os.trans hb.os, hk.tape.trans hb.tape, hk.output.trans hb.output, Nat.le_trans hb.size hk.size, fun b hb2 => ?_⟩, ?_⟩
  · have := hI.more
    rw [hk.block b (by omega) (by omega), hb.block b hb2]
  · have e : rowsC (sortF l) = .sl ((d'.toList.map (·.2)).map rowC) l.length := by
      rw [hq]
      unfold rowsC
      congr 1
      rw [← hq]
      simp [hlen]
    rw [e]
    refine rep_sl (repL_rows d'.toList fun x hx => ?_) (Nat.le_refl _) fun _ => ⟨w.heap.size, 0, rfl, fun i u hu => ?_⟩
    · obtain ⟨i, hi, rfl⟩ := List.mem_iff_getElem.1 hx
      simp only [Array.length_toList] at hi
      have := (hS.ok i hi).1
      rw [getElem!_pos d' i hi] at this
      rw [Array.getElem_toList]
      exact Rep.mono (Mem.le_trans (memN_le fun b h1 h2 => hk.block b h2 (by omega)) (memN_mono (by omega) _)) _ _ this
    · rw [List.getElem?_map] at hu
      obtain ⟨x, hx, rfl⟩ := Option.map_eq_some_iff.1 hu
      obtain ⟨hi, rfl⟩ := List.getElem?_eq_some_iff.1 hx
      simp only [Array.length_toList] at hi
      have h2 := hS.arr.c1 i hi
      rw [getElem!_pos d' i hi] at h2
      rw [Array.getElem_toList, Nat.zero_add]
      have h3 := hS.ok i hi
      rw [getElem!_pos d' i hi] at h3
      obtain ⟨a, n, c, r, e3⟩ := h3.slice
      refine memN_at (Nat.le_refl _) h2 ?_
      rw [e3]
      rfl

set_option maxHeartbeats 4000000 in
set_option maxRecDepth 100000 in
theorem sorted_walk {m : Mem} (l : List (List V)) (v : Value) (w : World) (hT : GT.holds w) (hm : ∀ b o u, m b o = some u → w.cell? ⟨b, o, none⟩ = some u ∧ u.oneCell' = true) (hv : Rep m (rowsC l) v)
    (hl : l.length ≤ 1048576) (hr : ∀ r ∈ l, r.length ≤ 1048576) :
    Calls Tryd.prog 41 #[v] w fun e w' => ∃ v', e = .returned v' ∧ Below w.heap.size w w' ∧ Rep (memN w.heap.size w') (rowsC (sortF l)) v' := by
  obtain ⟨A, cap, vs, rfl, hcap, hvl, hcell⟩ := hv
  have h1 : ∀ u ∈ vs, u.oneCell' = true := fun u hu => by
    obtain ⟨b, o, _, hc⟩ := hcell (by rintro rfl; cases hu)
    obtain ⟨i, hi⟩ := List.mem_iff_getElem?.1 hu
    exact (hm _ _ _ (hc i u hi)).2
  have hlen : vs.length = l.length := by rw [hvl.length]; simp
  obtain ⟨i0, hi, hz1, hz2, hz3⟩ : ∃ i, Tryd.prog.info? 28 = some i ∧ i.zero = some (.slice none 0 0) ∧ i.size = 1 ∧ i.bytes = 24 := by
    have h0 : (Tryd.prog.info? 28).map (fun i => (i.zero, i.size, i.bytes)) = some (some (.slice none 0 0), 1, 24) := by kernel_rfl
    obtain ⟨i, hi, he⟩ := Option.map_eq_some_iff.1 h0
    simp only [Prod.mk.injEq] at he
    exact ⟨i, hi, he⟩
  obtain ⟨cur0, hcur0, hmk⟩ : ∃ cur0 : Array Value, cur0.size = l.length ∧ ∀ w, (Instr.makeSlice 22 (.int .i64 0) (.int .i64 (l.length : Int))).run Tryd.prog w = .ok (.slice (some ⟨w.heap.size, 0, none⟩) 0 l.length) (w.alloc (.cells cur0 28)) := by
    refine ⟨madeCells (Value.slice none 0 0).cells l.length, size_madeCells _ _, fun w => ?_⟩
    have := run_makeSlice (P := Tryd.prog) w 22 28 i0 (.slice none 0 0) Tryd.underlying22 hi hz1 .i64 .i64 0 l.length (Int.le_refl _) (by omega) (by rw [hz2]; simp; omega) (by rw [hz3]; omega) (by omega)
    rw [hz2] at this
    simpa using this
  have HM : Aside _ := hm
  have HT : Aside _ := hT
  have HC : Aside _ := hcell
  have HV : Aside _ := hvl
  have HR : Aside _ := hr
  have H1 : Aside _ := h1
  have I0 : Aside (Copied w l 0 (w.alloc (.cells cur0 28)) [] cur0) := ⟨heap_alloc_new w _, hcur0, by simp, by simp, by simp, (Below.refl _ w).alloc (Nat.le_refl _) _, by simp⟩
  clear hm hT hcell hvl hr h1 hi hz1 hz2 hz3
  go_enter Tryd.func41, Tryd.ntmps41
  go_wp2
  clear hmk
  go_loopg [3, 11] l.length (fun g v3 v11 wr => ∃ (k : Nat) (cl : List El) (cur : Array Value), v3 = .slice (some ⟨w.heap.size, 0, none⟩) k l.length ∧ v11 = .int .i64 k ∧ k ≤ l.length ∧ l.length - k ≤ g ∧ Aside (Copied w l k wr cl cur))
  case atStart => exact ⟨0, [], cur0, rfl, by go_num, by omega, by omega, I0⟩
  case round =>
    clear I0
    obtain ⟨k, cl, cur, rfl, rfl, hk, hg, IC⟩ := hrel
    by_cases hlt : k < l.length
    · have hltz : (k : Int) < (l.length : Int) := by omega
      obtain ⟨u, hu, hru⟩ := HV.out.get k (rowC l[k]) (by simp [hlt])
      obtain ⟨lb, lo, rfl, hc⟩ := HC.out (by rintro rfl; simp at hlen; omega)
      have hc1 := HM.out _ _ _ (hc k u hu)
      have hlb := World.block_lt_of_cell? (a := ⟨lb, lo + k, none⟩) w hc1.1
      have hc2 : wr.cell? ⟨lb, lo + k, none⟩ = some u := (World.cell?_of_block (a := ⟨lb, lo + k, none⟩) (IC.out.below.block _ hlb)).trans hc1.1
      have cC := clone_walk (m := m) l[k] u wr (fun b o z hz => by
        obtain ⟨g1, g2⟩ := HM.out b o z hz
        exact ⟨(World.cell?_of_block (a := ⟨b, o, none⟩) (IC.out.below.block _ (World.block_lt_of_cell? (a := ⟨b, o, none⟩) w g1))).trans g1, g2⟩) hru (HR.out _ (List.getElem_mem hlt))
      clear hc hc1
      obtain ⟨ua, ucap, _, rfl, _⟩ := hru
      have e1 : ((k : Int)).toNat = k := by omega
      have p1 : (0 : Int) ≤ (k : Int) := by omega
      clear hu
      go_wp2_with (go_at_call 69; refine cC.mono ?_)
      clear cC
      rintro e w2 v' rfl hb2 hrep va vn vc rfl
      have IN : Aside _ := IC.out.next hlt hb2 _ hrep (.cells #[.slice va vn vc] 28)
      have hB2 : (w2.alloc (.cells #[.slice va vn vc] 28)).heap[w.heap.size]? = some (.cells cur 28 (0, 0)) := by
        rw [Lib.alloc_old w2 _ _ (by have := hb2.size; have := IC.out.more; omega), hb2.block _ IC.out.more]
        exact IC.out.blk
      have hcs := IC.out.size
      clear hrep hb2 hc2 IC
      go_wp2_with (at_builtin; refine wp_append_room rfl _ _ 22 rfl 28 _ Tryd.underlying22 T28 rfl w.heap.size k l.length cur rfl hB2 w2.heap.size 1 (.slice va vn vc) rfl ?c1 rfl hlt hcs ?_)
      case c1 => simp
      go_roundg (l.length - (k + 1))
      case measure => omega
      case rel => exact ⟨k + 1, _, _, rfl, by go_num, by omega, by omega, IN⟩
    · obtain rfl : k = l.length := by omega
      have hltz : ¬ (l.length : Int) < (l.length : Int) := by omega
      have hcl : cl.length = l.length := by
        have := congrArg List.length IC.out.rows
        simpa using this
      have hsize : cl.toArray.size = l.length := by simpa using hcl
      have hT2 : GT.holds wr := GT.keep w wr HT.out fun b hb => IC.out.below.block b (GT.lt HT.out hb)
      have hK : At wr w.heap.size (memN (w.heap.size + 1) wr) := ⟨fun b o v hv => by
        obtain ⟨g1, g2, g3⟩ := memN_some hv
        exact ⟨by omega, g2, g3⟩, hT2, fun b hb => by have := GT.lt HT.out hb; omega, IC.out.more⟩
      have hA : Arr wr w.heap.size cl.toArray wr := ⟨by
        rw [IC.out.blk]
        have e1 : cur = cl.toArray.map (·.1) := by
          apply Array.toList_inj.1
          have := IC.out.vals
          rw [List.take_of_length_le (by have := IC.out.size; simp; omega)] at this
          simpa using this
        rw [e1], Keeps.refl _ _⟩
      have hO : AllOk (memN (w.heap.size + 1) wr) cl.toArray := fun i hi => by
        have hi' : i < cl.length := by simpa using hi
        rw [getElem!_pos cl.toArray i hi]
        have hmem : cl[i] ∈ cl := List.getElem_mem hi'
        refine ⟨by simpa using IC.out.ok _ hmem, ?_⟩
        have h2 : cl[i].2 ∈ cl.map (·.2) := List.mem_map_of_mem hmem
        rw [IC.out.rows, List.take_length] at h2
        simpa using HR.out _ h2
      have cS := sortStable_walk hK hA hO l.length (by omega)
      rw [hsize] at cS
      have HI : Aside _ := And.intro IC.out hsize
      clear hT2 hK hA hO IC hsize
      go_wp2_with (go_at_call 70; refine cS.mono ?_)
      clear cS
      rintro e w3 rfl d' hS
      have HS : Aside _ := sorted_rep HI.out.1 hS
      clear hS
      go_wp2
      go_ret
      exact ⟨_, rfl, HS.out⟩
end Go.Proofs.YtiepbejeiijpmaaDoor
namespace Go.Proofs.YtiepbejeiijpmaaDoor
open Go Go.Pe Go.Tab Go.RowKit

theorem okRows_row {l : List (List V)} (h : okRows l = true) : ∀ r ∈ l, r.length ≤ 1048576 := fun r hr => by
  simp only [okRows, Bool.and_eq_true, List.all_eq_true, okRow, decide_eq_true_eq] at h
  have h1 := (h.2 r hr).1
  have := len_wt r
  omega
theorem sorted_sound (xs : List X) (obs : List Ob) (an : An) (h : sortedP xs obs = some an) : Sound Tryd.prog GT 41 xs obs an := by
  unfold sortedP at h
  split at h
  · rename_i c
    simp only [Option.bind_eq_some_iff] at h
    obtain ⟨l, hl, h⟩ := h
    obtain rfl := unrows_eq hl
    split at h
    · rename_i hc
      simp only [Option.some.injEq] at h
      subst h
      intro fn hf k ow w vs hp hold hcl hvs
      simp only [RepXs, RepX] at hvs
      obtain ⟨v, r, rfl, hv, rfl⟩ := hvs
      have h20 : l.length ≤ 1048576 := hc.2
      refine (sorted_walk l v w hp.table hp.mem hv h20 (okRows_row hc.1)).mono ?_
      rintro e w' ⟨v', rfl, hB, hR⟩
      have hg := hp.grow hB
      have hle : k.m.le fun b o => if b < w.heap.size then k.m b o else memN w.heap.size w' b o := fun b o u hu => by
        simp only
        rw [if_pos (mem_lt hp.mem hu)]
        exact hu
      refine ⟨⟨fun b o => if b < w.heap.size then k.m b o else memN w.heap.size w' b o, k.μ⟩, ow, [_], rfl, ?_, hle, Nat.le_refl _, fun _ _ => rfl, hold, hcl, _, _, rfl, ?_, rfl⟩
      · exact {
          good := hg.good
          below := hg.below
          mem := fun b o u hu => by
            simp only at hu
            split at hu
            · exact hg.mem b o u hu
            · exact (memN_some hu).2
          obj := fun r ob hr => by simp at hr
          dom := hp.dom
          inj := hp.inj
          tok := fun t u e z n ht => by
            obtain ⟨h1, h2⟩ := hg.tok t u e z n ht
            refine ⟨h1, fun g hgb => ⟨(h2 g hgb).1, fun o ho => ?_, (h2 g hgb).2.2⟩⟩
            simp only
            rw [if_pos (hp.tlt ht hgb).2]
            exact (h2 g hgb).2.1 o ho
          tokne := hp.tokne
          m0 := fun b o u hu hb hm => by
            simp only at hu
            rw [if_pos hb] at hu
            exact hp.m0 b o u hu hb hm }
      · refine Rep.mono (fun b o u hu => ?_) _ _ hR
        have := (memN_some hu).1
        simp only
        rw [if_neg (by omega)]
        exact hu
    · cases h
  · cases h
/-- What is given holds. -/
theorem pr_sound : PrSound Tryd.prog GT pr := prB_sound fun _ => sorted_sound
end Go.Proofs.YtiepbejeiijpmaaDoor
namespace Go.Proofs.YtiepbejeiijpmaaDoor
open Go Go.Pe Go.Tab Go.RowKit Go.ChangeShapes Go.Deep

/-- Memory, as it is. -/
def memOf (W : World) : Mem := fun b o => match W.cell? ⟨b, o, none⟩ with
  | some v => if v.oneCell' = true then some v else none
  | none => none
theorem memOf_some {W : World} {b o : Nat} {v : Value} (h : W.cell? ⟨b, o, none⟩ = some v) (h1 : v.oneCell' = true) : memOf W b o = some v := by simp [memOf, h, h1]
theorem memOf_mem {W : World} {b o : Nat} {v : Value} (h : memOf W b o = some v) : W.cell? ⟨b, o, none⟩ = some v ∧ v.oneCell' = true := by
  unfold memOf at h
  split at h
  · split at h
    · rename_i h1 h2
      cases h
      exact ⟨h1, h2⟩
    · cases h
  · cases h

section
variable {H : Type} {enc : TypeId × Value → H} {W : World} {spare : Nat → Bool} {held : Bool}

theorem one_le {H : Type} (d : DataW H) : 1 ≤ Rows.uptoBulk d := by
  cases d with
  | lit l => cases l <;> simp [Rows.uptoBulk]
  | _ => simp [Rows.uptoBulk]
theorem bulk_mem {H : Type} {d : DataW H} : ∀ {l : List (DataW H)}, d ∈ l → Rows.uptoBulk d ≤ Rows.uptoBulkAll l
  | x :: r, h => by
    simp only [Rows.uptoBulkAll]
    rcases List.mem_cons.1 h with rfl | h
    · omega
    · have := bulk_mem h; omega
theorem bulk_sum {H : Type} (f : Nat → DataW H) (g : Nat → Nat) : ∀ n, (∀ i, i < n → g i ≤ Rows.uptoBulk (f i)) → ((List.range n).map g).sum ≤ Rows.uptoBulkAll ((List.range n).map f)
  | 0, _ => Nat.zero_le _
  | n + 1, h => by
    have ih := bulk_sum f g n fun i hi => h i (by omega)
    have happ : ∀ (l r : List (DataW H)), Rows.uptoBulkAll (l ++ r) = Rows.uptoBulkAll l + Rows.uptoBulkAll r := by
      intro l r
      induction l with
      | nil => simp [Rows.uptoBulkAll]
      | cons x l ih => simp only [List.cons_append, Rows.uptoBulkAll, ih]; omega
    rw [List.range_succ, List.map_append, List.sum_append, List.map_append, happ]
    have := h n (by omega)
    simp only [List.map_cons, List.map_nil, List.sum_cons, List.sum_nil, Rows.uptoBulkAll]
    omega
theorem bulk_len {H : Type} (f : Nat → DataW H) (n : Nat) : n ≤ Rows.uptoBulkAll ((List.range n).map f) := by
  have := bulk_sum f (fun _ => 1) n fun i _ => one_le _
  have h : ∀ n, ((List.range n).map fun _ => 1).sum = n := by
    intro n
    induction n with
    | zero => rfl
    | succ n ih => rw [List.range_succ, List.map_append, List.sum_append, ih]; rfl
  rwa [h] at this
theorem add_add (a : Addr) (m j : Nat) : (a.add m).add j = a.add (m + j) := by
  unfold Addr.add
  by_cases hm : m = 0
  · subst hm
    simp
  · by_cases hj : j = 0
    · subst hj
      simp [hm]
    · simp [hm, hj, Nat.add_assoc]

/-- A slice, by its elements. -/
theorem slice_rep {a : Addr} {len cap z : Nat} (hle : len ≤ cap) (hz : 0 < z) (cs : Nat → List Value) (g : Nat → List C)
    (h : ∀ i, i < len → W.cells? 0 (a.add (i * z)) z = some (cs i) ∧ RepL (memOf W) (g i) (cs i) ∧ ∀ u ∈ cs i, u.oneCell' = true) :
    Rep (memOf W) (.sl ((List.range len).map g).flatten len) (.slice (some a) len cap) := by
  have h1 : ∀ n, n ≤ len → RepL (memOf W) ((List.range n).map g).flatten ((List.range n).map cs).flatten ∧ ((List.range n).map cs).flatten.length = n * z ∧
      ∀ i u, ((List.range n).map cs).flatten[i]? = some u → W.cell? (a.add i) = some u ∧ u.oneCell' = true := by
    intro n
    induction n with
    | zero => intro _; exact ⟨rfl, by simp, fun i u hu => by simp at hu⟩
    | succ n ih =>
      intro hn
      obtain ⟨i1, i2, i3⟩ := ih (by omega)
      obtain ⟨j1, j2, j3⟩ := h n (by omega)
      obtain ⟨_, k1, k2⟩ := World.cells?_some j1
      simp only [List.range_succ, List.map_append, List.map_cons, List.map_nil, List.flatten_append, List.flatten_cons, List.flatten_nil, List.append_nil]
      refine ⟨i1.append j2, by rw [List.length_append, i2, k1, Nat.succ_mul], fun i u hu => ?_⟩
      rcases Nat.lt_or_ge i (n * z) with hi | hi
      · rw [List.getElem?_append_left (by omega)] at hu
        exact i3 i u hu
      · rw [List.getElem?_append_right (by omega), i2] at hu
        have hlt : i - n * z < z := by
          have := (List.getElem?_eq_some_iff.1 hu).1
          omega
        have := k2 (i - n * z) hlt
        rw [hu] at this
        rw [add_add, show n * z + (i - n * z) = i by omega] at this
        exact ⟨this, j3 u (List.mem_of_getElem? hu)⟩
  obtain ⟨h2, h3, h4⟩ := h1 len (Nat.le_refl _)
  refine ⟨some a, cap, _, rfl, hle, h2, fun hne => ?_⟩
  have hpl : a.spot = none := by
    cases hv : ((List.range len).map cs).flatten with
    | nil => exact absurd hv hne
    | cons u r =>
      have := (h4 0 u (by rw [hv]; rfl)).1
      unfold Addr.add at this
      rw [if_pos rfl] at this
      cases hs : a.spot with
      | none => rfl
      | some s =>
        unfold World.cell? at this
        split at this
        · simp [hs] at this
        · cases this
  refine ⟨a.block, a.off, by cases a; simp only at hpl; rw [hpl], fun i u hu => ?_⟩
  obtain ⟨h5, h6⟩ := h4 i u hu
  refine memOf_some ?_ h6
  rw [← h5]
  unfold Addr.add
  split
  · rename_i e; subst e; cases a; simp only at hpl; rw [hpl]; rfl
  · rfl

theorem small_wf {n : Int} (h : (Lit.int .i64 n).wf = true) : small64 n = true := by
  simp only [small64, decide_eq_true_eq]
  simp [Lit.wf, IntKind.wrap_i64] at h
  have : IntKind.i64.min = -9223372036854775808 := rfl
  omega

set_option maxRecDepth 100000 in
theorem read_val {fuel : Nat} {cs : List Value} {x : DataW H × List MemPlace} (h : DataW.trod enc Tryd.prog W 0 spare held fuel 34 cs = some x) :
    ∃ v : V, cs = [.int .i64 v.k, .int .i64 v.n, .string v.s] ∧ small64 v.k = true ∧ small64 v.n = true ∧ v.s.size + 3 ≤ Rows.uptoBulk x.1 := by
  obtain ⟨xs, n, rfl, rfl, hlen, hxl, hf⟩ := DataW.trod_struct Tryd.underlying34 h
  have hlen3 : cs.length = 3 := hlen.trans (show Tryd.prog.cellsOf 34 = 3 by kernel_rfl)
  have c3 : Tryd.prog.cellsOf 3 = 1 := by kernel_rfl
  have c9 : Tryd.prog.cellsOf 9 = 1 := by kernel_rfl
  match cs, hlen3 with
  | [u0, u1, u2], _ =>
    match xs, hxl with
    | [x0, x1, x2], _ =>
      have f0 := hf 0 _ rfl
      have f1 := hf 1 _ rfl
      have f2 := hf 2 _ rfl
      simp only [c3, c9, List.drop_zero, List.take_succ_cons, List.take_zero, List.drop_succ_cons, List.getElem?_cons_zero, List.getElem?_cons_succ] at f0 f1 f2
      obtain ⟨k, e0, rfl, w0⟩ := DataW.trod_int Tryd.underlying3 f0
      obtain ⟨m, e1, rfl, w1⟩ := DataW.trod_int Tryd.underlying3 f1
      obtain ⟨s, e2, rfl, w2⟩ := DataW.trod_string Tryd.underlying9 f2
      cases e0; cases e1; cases e2
      refine ⟨⟨k, m, s⟩, rfl, small_wf w0, small_wf w1, ?_⟩
      simp [Rows.uptoBulk, Rows.uptoBulkAll]
      have : s.size = s.data.size := rfl
      omega
set_option maxRecDepth 100000 in
theorem read_row {fuel : Nat} {cs : List Value} {x : DataW H × List MemPlace} (h : DataW.trod enc Tryd.prog W 0 spare held fuel 28 cs = some x) :
    ∃ (r : List V) (u : Value), cs = [u] ∧ u.oneCell' = true ∧ Rep (memOf W) (rowC r) u ∧ (Rows.uptoBulk x.1 ≤ 1048576 → ROk r) := by
  rcases open_slice Tryd.underlying28 h with ⟨rfl, rfl⟩ | ⟨a, len, cap, m, n, D, Pl, rfl, _, hle, _, hm, rfl, hx⟩
  · exact ⟨[], _, rfl, rfl, ⟨none, 0, [], rfl, Nat.le_refl _, rfl, fun h => absurd rfl h⟩, fun _ => ⟨by decide, by simp⟩⟩
  · have c34 : Tryd.prog.cellsOf 34 = 3 := by kernel_rfl
    rw [c34] at hx
    have hlm : len ≤ m := by rw [hm]; split <;> omega
    have hv : ∀ i : Nat, ∃ v : V, i < len → W.cells? 0 (a.add (i * 3)) 3 = some [.int .i64 v.k, .int .i64 v.n, .string v.s] ∧ small64 v.k = true ∧ small64 v.n = true ∧ v.s.size + 3 ≤ Rows.uptoBulk (D i) := fun i => by
      by_cases hi : i < len
      · obtain ⟨cs', h1, h2⟩ := hx i (by omega)
        obtain ⟨v, rfl, h3⟩ := read_val h2
        exact ⟨v, fun _ => ⟨h1, h3⟩⟩
      · exact ⟨⟨0, 0, .empty⟩, fun h => absurd h hi⟩
    obtain ⟨f, hf⟩ := Classical.axiomOfChoice hv
    refine ⟨(List.range len).map f, _, rfl, rfl, ?_, fun hb => ⟨?_, ?_⟩⟩
    · have := slice_rep (W := W) hle (by decide : 0 < 3) (fun i => [.int .i64 (f i).k, .int .i64 (f i).n, .string (f i).s]) (fun i => valC (f i)) (fun i hi => ⟨(hf i hi).1, ⟨_, _, rfl, ⟨rfl, rfl⟩, _, _, rfl, ⟨rfl, rfl⟩, _, _, rfl, ⟨rfl, rfl⟩, rfl⟩, by simp [Value.oneCell']⟩)
      unfold rowC valsC
      rw [List.map_map, List.length_map, List.length_range]
      exact this
    · have := bulk_sum D (fun i => (f i).s.size + 3) len fun i hi => (hf i hi).2.2.2
      simp only [Rows.uptoBulk] at hb
      unfold wt
      rw [List.map_map]
      exact Nat.le_trans this (by omega)
    · intro v hv
      simp only [List.mem_map, List.mem_range] at hv
      obtain ⟨i, hi, rfl⟩ := hv
      obtain ⟨_, h1, h2, h3⟩ := hf i hi
      have := bulk_mem (d := D i) (l := (List.range len).map D) (List.mem_map_of_mem (List.mem_range.2 hi))
      simp only [Rows.uptoBulk] at hb
      exact ⟨h1, h2, by omega⟩
set_option maxRecDepth 100000 in
theorem read_rows {t : TypeId} {v : Value} {d : DataW H} {ps : List MemPlace} (ht : t = 22) (hd : DataW.Trod enc Tryd.prog W 0 spare held t v d ps) (hone : v.cells.toList = [v]) (hb : Rows.uptoBulk d ≤ 1048576) :
    ∃ l : List (List V), Rep (memOf W) (rowsC l) v ∧ RsOk l := by
  subst ht
  obtain ⟨fuel, h⟩ := hd
  rcases open_slice Tryd.underlying22 h with ⟨e, e2⟩ | ⟨a, len, cap, m, n, D, Pl, e, _, hle, _, hm, e2, hx⟩
  · rw [hone] at e
    cases e
    exact ⟨[], ⟨none, 0, [], rfl, Nat.le_refl _, rfl, fun h => absurd rfl h⟩, by simp, by simp⟩
  · rw [hone] at e
    cases e
    cases e2
    have c28 : Tryd.prog.cellsOf 28 = 1 := by kernel_rfl
    rw [c28] at hx
    have hlm : len ≤ m := by rw [hm]; split <;> omega
    have hv : ∀ i : Nat, ∃ p : List V × Value, i < len → W.cells? 0 (a.add (i * 1)) 1 = some [p.2] ∧ p.2.oneCell' = true ∧ Rep (memOf W) (rowC p.1) p.2 ∧ (Rows.uptoBulk (D i) ≤ 1048576 → ROk p.1) := fun i => by
      by_cases hi : i < len
      · obtain ⟨cs', h1, h2⟩ := hx i (by omega)
        obtain ⟨r, u, rfl, h3⟩ := read_row h2
        exact ⟨(r, u), fun _ => ⟨h1, h3⟩⟩
      · exact ⟨([], undef), fun h => absurd h hi⟩
    obtain ⟨f, hf⟩ := Classical.axiomOfChoice hv
    simp only [Rows.uptoBulk] at hb
    have hbl := bulk_len D len
    refine ⟨(List.range len).map fun i => (f i).1, ?_, by simp; omega, ?_⟩
    · have := slice_rep (W := W) hle (by decide : 0 < 1) (fun i => [(f i).2]) (fun i => [rowC (f i).1]) (fun i hi => ⟨(hf i hi).1, ⟨_, _, rfl, (hf i hi).2.2.1, rfl⟩, by simpa using (hf i hi).2.1⟩)
      have e : ((List.range len).map fun i => [rowC (f i).1]).flatten = ((List.range len).map fun i => (f i).1).map rowC := by
        generalize List.range len = L
        induction L with
        | nil => rfl
        | cons x L ih => simp only [List.map_cons, List.flatten_cons, ih]; rfl
      rw [e] at this
      unfold rowsC
      rw [List.length_map, List.length_range]
      exact this
    · intro r hr
      simp only [List.mem_map, List.mem_range] at hr
      obtain ⟨i, hi, rfl⟩ := hr
      have := bulk_mem (d := D i) (l := (List.range len).map D) (List.mem_map_of_mem (List.mem_range.2 hi))
      exact (hf i hi).2.2.2 (by omega)
end
end Go.Proofs.YtiepbejeiijpmaaDoor
namespace Go.Proofs.YtiepbejeiijpmaaDoor.card
open Go Go.Pe Go.Tab Go.RowKit Go.ChangeShapes Go.WideShapes Go.ChangeAt Go.Proofs.YtiepbejeiijpmaaDoor

theorem own : ownKnob Tryd.prog.godebug = none := by kernel_rfl
theorem laidOut : laidOutB Tryd.prog = true := by kernel_rfl
theorem gTab : Tryd.prog.globalNamed tabName = some 3 := by kernel_rfl
theorem gTabType : (Tryd.prog.globals[3]?).map (·.type) = some 115 := by kernel_rfl
theorem cellsTab : Tryd.prog.cellsOf 115 = 20 := by kernel_rfl
theorem cellsU64 : Tryd.prog.cellsOf 103 = 1 := by kernel_rfl
/-- The table, out of the row's list; the one other variable that is read holds some number. -/
theorem table {W : World} {laid : List (String × DataW Unit)} (hf : (laid.filter fun x => x.1 == tabName) = [(tabName, Lib.tabData .u64 Lib.pow10Tab)]) (h : laidMet Tryd.prog laid W) (hs : W.ShapedOpen Tryd.prog) : GT.holds W := by
  have h2 := h.filter fun x => x.1 == tabName
  rw [hf] at h2
  exact ⟨Lib.tabIs_of_head (rest := []) gTab gTabType Tryd.underlying115 Tryd.underlying103 cellsU64 cellsTab h2,
    Go.Proofs.cell_of_shapedOpen_int (zero := #[.int .i64 0]) (t := 3) hs (of_decide_eq_true (by kernel_rfl)) (by kernel_rfl) rfl (by kernel_rfl) (by kernel_rfl) Tryd.underlying3⟩
theorem trodAll_stays {H : Type} {enc : TypeId × Value → H} {W W' : World} {sp : Nat → Bool} : ∀ {ts : List TypeId} {vs : List Value} {ds : List (DataW H)} {ps : List MemPlace}, (∀ t ∈ ts, Tryd.prog.readableRec t = true ∧ t < Tryd.prog.types.size) →
    DataW.TrodAll enc Tryd.prog W 0 (fun _ => true) true ts vs ds ps → (∀ p ∈ ps, W.sameAt W' p) → (∀ p ∈ ps, sp p.block = true) → DataW.TrodAll enc Tryd.prog W' 0 sp true ts vs ds ps
  | [], [], [], _, _, h, _, _ => h
  | _ :: _, _ :: _, _ :: _, _, hT, ⟨p, q, h1, h2, e⟩, hs, hsp =>
    ⟨p, q, WideElems.Trod_stays laidOut (hT _ (List.mem_cons.2 (.inl rfl))).1 (hT _ (List.mem_cons.2 (.inl rfl))).2 h1 (fun x hx => hs x (by rw [e]; exact List.mem_append_left _ hx)) (fun x hx => hsp x (by rw [e]; exact List.mem_append_left _ hx)),
      trodAll_stays (fun t ht => hT t (List.mem_cons.2 (.inr ht))) h2 (fun x hx => hs x (by rw [e]; exact List.mem_append_right _ hx)) (fun x hx => hsp x (by rw [e]; exact List.mem_append_right _ hx)), e⟩

/-- A call on plain data, as the machine says. -/
def kOf (W : World) : Know := ⟨memOf W, fun _ => none⟩
theorem plain_call {f : Nat} {xs : List X} {b : Bool} (h : G1 f xs (xbool b)) {fn : Func} (hfn : Tryd.prog.funcs[f]? = some fn) {W : World} (hT : GT.holds W) {vs : List Value} (hvs : RepXs (kOf W) (fun _ => none) xs vs) :
    Calls Tryd.prog f vs.toArray W fun e W' => e = .returned (.bool b) ∧ Below W.heap.size W W' :=
  plain_gives pr_sound h hfn hT (fun _ _ _ hv => memOf_mem hv) hvs

set_option maxRecDepth 100000 in
theorem okSl {W : World} {base : Nat} {t e : TypeId} {v : Value} (ht : Tryd.prog.underlying t = some (.slice e)) (h : Value.okWide Tryd.prog W .any base t v) : v.cells.toList = [v] := by
  obtain ⟨a, len, cap, rfl⟩ := okWide_slice ht h
  rfl
/-- A world for the witness: the settled one, the listed tables holding what their initialisers lay. -/
def litsOf : DataW Unit → Array Value
  | .agg l => (l.map fun d => match d with
    | .lit (.int k n) => Value.int k n
    | _ => undef).toArray
  | _ => #[]
def putCells (vs : Array Value) : Obj → Obj
  | .cells _ t frozen => .cells vs t frozen
  | o => o
noncomputable def laidWorld (os : Os) : World :=
  { World.holding Tryd.prog os ⟨#[], #[], []⟩ with heap := (((World.holding Tryd.prog os ⟨#[], #[], []⟩).heap.modify 3 (putCells (litsOf Rows.laid_internal_strconv_uint64pow10))).modify 4 (putCells (litsOf Rows.laid_math_bits_deBruijn32tab))).modify 5 (putCells (litsOf Rows.laid_math_bits_deBruijn64tab)) }
end Go.Proofs.YtiepbejeiijpmaaDoor.card
namespace Go.Proofs.YtiepbejeiijpmaaDoor.card
open Go Go.Pe Go.Tab Go.RowKit Go.ChangeShapes Go.WideShapes Go.ChangeAt Go.Proofs.YtiepbejeiijpmaaDoor

section
variable {H : Type} {enc : TypeId × Value → H} {W : World} {spare : Nat → Bool} {held : Bool} {base : Nat} {v : Value} {d : DataW H} {ps : List MemPlace}
end
theorem bulk3 {H : Type} {d0 d1 d2 : DataW H} (h : Rows.uptoSmall H [d0, d1, d2] = true) : Rows.uptoBulk d0 ≤ 1048576 ∧ Rows.uptoBulk d1 ≤ 1048576 ∧ Rows.uptoBulk d2 ≤ 1048576 := by
  have := of_decide_eq_true h
  simp only [Rows.uptoBulkAll] at this
  omega
/-- A table's cells, the parts of its parts one behind the other. -/
def litOf1 : DataW Unit → Value
  | .lit (.int k n) => .int k n
  | _ => undef
def litsIn : DataW Unit → List Value
  | .agg l => l.map litOf1
  | d => [litOf1 d]
def litsOf2 : DataW Unit → Array Value
  | .agg l => (l.map litsIn).flatten.toArray
  | _ => #[]
noncomputable def laidWorld3 (os : Os) : World :=
  { laidWorld os with heap := ((laidWorld os).heap.modify 1 (putCells (litsOf2 Rows.laid_unicode_utf8_first))).modify 2 (putCells (litsOf2 Rows.laid_unicode_utf8_acceptRanges)) }
end Go.Proofs.YtiepbejeiijpmaaDoor.card
namespace Go.Proofs.YtiepbejeiijpmaaDoor
open Go Go.Pe Go.Tab

/-- Each row once, where it first comes. -/
def disF (out : List (List V)) : List (List V) → List (List V)
  | [] => out
  | r :: l => disF (if r ∈ out then out else out ++ [r]) l
theorem disF_append (a b : List (List V)) : ∀ out, disF out (a ++ b) = disF (disF out a) b := by
  induction a with
  | nil => intro out; rfl
  | cons r a ih => intro out; exact ih _
theorem disF_snoc (l : List (List V)) (k : Nat) (h : k < l.length) : disF [] (l.take (k + 1)) = if l[k] ∈ disF [] (l.take k) then disF [] (l.take k) else disF [] (l.take k) ++ [l[k]] := by
  rw [List.take_succ_eq_append_getElem h, disF_append]
  rfl
theorem disF_mem : ∀ (l out : List (List V)) (r : List V), r ∈ disF out l ↔ r ∈ out ∨ r ∈ l
  | [], out, r => by simp [disF]
  | x :: l, out, r => by
    simp only [disF]
    rw [disF_mem l]
    split
    · rename_i h
      simp only [List.mem_cons]
      constructor
      · rintro (h1 | h1)
        · exact .inl h1
        · exact .inr (.inr h1)
      · rintro (h1 | rfl | h1)
        · exact .inl h1
        · exact .inl h
        · exact .inr h1
    · simp only [List.mem_append, List.mem_cons, List.not_mem_nil, or_false, or_assoc]
theorem disF_len : ∀ (l out : List (List V)), (disF out l).length ≤ out.length + l.length
  | [], out => by simp [disF]
  | x :: l, out => by
    simp only [disF]
    have := disF_len l (if x ∈ out then out else out ++ [x])
    have h2 : (if x ∈ out then out else out ++ [x]).length ≤ out.length + 1 := by split <;> simp
    simp only [List.length_cons]
    omega
theorem RsOk.dis {l : List (List V)} (h : RsOk l) : RsOk (disF [] l) :=
  ⟨by have := disF_len l []; have := h.1; simp at *; omega, fun r hr => h.2 r (by rcases (disF_mem l [] r).1 hr with h | h; simp at h; exact h)⟩
theorem RsOk.take {l : List (List V)} (h : RsOk l) (k : Nat) : RsOk (l.take k) := ⟨by have := h.1; simp; omega, fun r hr => h.2 r (List.mem_of_mem_take hr)⟩

def onceF (l : List (List V)) (all : Bool) : List (List V) := if all then l else disF [] l
theorem RsOk.append {a b : List (List V)} (ha : RsOk a) (hb : RsOk b) (h : a.length + b.length ≤ 1048576) : RsOk (a ++ b) := ⟨by simpa using h, fun r hr => by
  rcases List.mem_append.1 hr with h | h
  · exact ha.2 r h
  · exact hb.2 r h⟩
end Go.Proofs.YtiepbejeiijpmaaDoor
namespace Go.Proofs.YtiepbejeiijpmaaDoor
open Go Go.Pe Go.Tab

abbrev Rows' := List (List V)
/-- One row of the first list: what is left of the second one; what both have; the others. -/
def stepP (st : Rows' × Rows' × Rows') (r : List V) : Rows' × Rows' × Rows' := if r ∈ st.1 then (st.1.erase r, st.2.1 ++ [r], st.2.2) else (st.1, st.2.1, st.2.2 ++ [r])
def partsF (a b : Rows') : Rows' × Rows' × Rows' := a.foldl stepP (b, [], [])
theorem partsF_snoc (a b : Rows') (k : Nat) (h : k < a.length) : partsF (a.take (k + 1)) b = stepP (partsF (a.take k) b) a[k] := by
  unfold partsF
  rw [List.take_succ_eq_append_getElem h, List.foldl_append]
  rfl
theorem partsF_ok (a b : Rows') (ha : RsOk a) (hb : RsOk b) : RsOk (partsF a b).1 ∧ RsOk (partsF a b).2.1 ∧ RsOk (partsF a b).2.2 := by
  have key : ∀ (l : Rows') (st : Rows' × Rows' × Rows'), (∀ r ∈ l, ROk r) → (∀ r ∈ st.1, ROk r) → (∀ r ∈ st.2.1, ROk r) → (∀ r ∈ st.2.2, ROk r) → st.1.length ≤ b.length → st.2.1.length + l.length ≤ a.length → st.2.2.length + l.length ≤ a.length →
      (∀ r ∈ (l.foldl stepP st).1, ROk r) ∧ (∀ r ∈ (l.foldl stepP st).2.1, ROk r) ∧ (∀ r ∈ (l.foldl stepP st).2.2, ROk r) ∧ (l.foldl stepP st).1.length ≤ b.length ∧ (l.foldl stepP st).2.1.length ≤ a.length ∧ (l.foldl stepP st).2.2.length ≤ a.length := by
    intro l
    induction l with
    | nil => intro st h0 h1 h2 h3 h4 h5 h6; exact ⟨h1, h2, h3, h4, by simpa using h5, by simpa using h6⟩
    | cons x l ih =>
      intro st h0 h1 h2 h3 h4 h5 h6
      simp only [List.length_cons] at h5 h6
      refine ih _ (fun r hr => h0 r (by simp [hr])) ?_ ?_ ?_ ?_ ?_ ?_ <;> unfold stepP <;> split <;> simp only [List.length_append, List.length_singleton]
      · exact fun r hr => h1 r (List.mem_of_mem_erase hr)
      · exact h1
      · intro r hr
        rcases List.mem_append.1 hr with h | h
        · exact h2 r h
        · exact h0 r (by simp at h; simp [h])
      · exact h2
      · exact h3
      · intro r hr
        rcases List.mem_append.1 hr with h | h
        · exact h3 r h
        · exact h0 r (by simp at h; simp [h])
      · rename_i hm; have := List.length_erase_le (a := x) (l := st.1); omega
      · exact h4
      all_goals omega
  obtain ⟨h1, h2, h3, h4, h5, h6⟩ := key a (b, [], []) ha.2 hb.2 (by simp) (by simp) (Nat.le_refl _) (by simp) (by simp)
  have := ha.1
  have := hb.1
  exact ⟨⟨Nat.le_trans h4 hb.1, h1⟩, ⟨Nat.le_trans h5 ha.1, h2⟩, ⟨Nat.le_trans h6 ha.1, h3⟩⟩

theorem RsOk.once {l : Rows'} (h : RsOk l) (all : Bool) : RsOk (onceF l all) := by
  unfold onceF
  split
  · exact h
  · exact h.dis
end Go.Proofs.YtiepbejeiijpmaaDoor
namespace Go.Proofs.YtiepbejeiijpmaaDoor
open Go Go.Pe Go.Tab

theorem str_size (l : List UInt8) : (str l).size = l.length := by simp [str, ByteArray.size]
theorem str_list (l : List UInt8) : (str l).data.toList = l := rfl
theorem itoaE (xs : List X) (obs : List Ob) : pr.prim 83 xs obs = itoaP xs obs := rfl
theorem wsE (xs : List X) (obs : List Ob) : pr.prim 87 xs obs = wsP xs obs := rfl
theorem wbE (xs : List X) (obs : List Ob) : pr.prim 88 xs obs = wbP xs obs := rfl
theorem bsE (xs : List X) (obs : List Ob) : pr.prim 89 xs obs = bsP xs obs := rfl
theorem ItoaN_k (n : Int) (K : An → Prop) (h : small64 n = true) : CallK Tryd.prog pr 83 [xint n] [] K ↔ K ⟨false, [xstr (str (Lib.itoa n))], []⟩ :=
  Gives.k (Gives.of_prim (by rw [itoaE]; simp only [itoaP, h, if_true])) K
theorem WS_k (l : List UInt8) (s : ByteArray) (K : An → Prop) (h : l.length + s.size ≤ LIM) : CallK Tryd.prog pr 87 [.ptr 0 0, xstr s] [.var 83 [.ptr 0 0, .own (.cell 0 1) 5 1 (byC l) l.length]] K ↔
    K ⟨false, [xint s.size, .of (.lit .nilIface)], [.var 83 [.ptr 0 0, .own (.cell 0 1) 5 1 (byC (l ++ s.data.toList)) (l ++ s.data.toList).length]]⟩ :=
  Gives.k (Gives.of_prim (by rw [wsE]; simp only [wsP, bldOf_bld, Option.bind_some, h, if_true, bld])) K
theorem WS_k0 (s : ByteArray) (K : An → Prop) (h : s.size ≤ LIM) : CallK Tryd.prog pr 87 [.ptr 0 0, xstr s] [.var 83 [.of (.lit (.pointer none)), .nil]] K ↔
    K ⟨false, [xint s.size, .of (.lit .nilIface)], [.var 83 [.ptr 0 0, .own (.cell 0 1) 5 1 (byC s.data.toList) s.data.toList.length]]⟩ :=
  Gives.k (Gives.of_prim (by rw [wsE]; simp only [wsP, bldOf, Option.bind_some, List.length_nil, Nat.zero_add, h, if_true, bld, List.nil_append])) K
theorem WB_k (l : List UInt8) (n : Int) (K : An → Prop) (h : l.length + 1 ≤ LIM) (h2 : 0 ≤ n ∧ n < 256) : CallK Tryd.prog pr 88 [.ptr 0 0, .of (.lit (.int .u8 n))] [.var 83 [.ptr 0 0, .own (.cell 0 1) 5 1 (byC l) l.length]] K ↔
    K ⟨false, [.of (.lit .nilIface)], [.var 83 [.ptr 0 0, .own (.cell 0 1) 5 1 (byC (l ++ [UInt8.ofNat n.toNat])) (l ++ [UInt8.ofNat n.toNat]).length]]⟩ :=
  Gives.k (Gives.of_prim (by rw [wbE]; simp only [wbP, bldOf_bld, Option.bind_some, h, h2, and_self, if_true, bld])) K
theorem BS_k (l : List UInt8) (K : An → Prop) : CallK Tryd.prog pr 89 [.ptr 0 0] [.var 83 [.ptr 0 0, .own (.cell 0 1) 5 1 (byC l) l.length]] K ↔ K ⟨false, [xstr (str l)], [.var 83 [.of .any, .of .any]]⟩ :=
  Gives.k (Gives.of_prim (by rw [bsE]; simp only [bsP, bldOf_bld, Option.map_some])) K
theorem BS_k0 (K : An → Prop) : CallK Tryd.prog pr 89 [.ptr 0 0] [.var 83 [.of (.lit (.pointer none)), .nil]] K ↔ K ⟨false, [xstr (str [])], [.var 83 [.of .any, .of .any]]⟩ :=
  Gives.k (Gives.of_prim rfl) K

theorem wt_take (r : List V) (k : Nat) (h : k < r.length) : wt (r.take k) + (r[k].s.size + 3) ≤ wt r := by
  have h1 : wt r = wt (r.take k) + wt (r.drop k) := by
    unfold wt
    rw [← List.sum_append, ← List.map_append, List.take_append_drop]
  rw [h1, drop_getD h, wt_cons]
  omega
theorem sm (n : Int) (h : small64 n = true) : (Lib.itoa n).length ≤ 20 := by
  simp only [small64, decide_eq_true_eq] at h
  exact itoa_len n h.1 h.2
theorem piece_len (v : V) (h : VOk v) : (piece v).length ≤ 63 + v.s.size := by
  have h1 := sm _ h.k
  have h2 := sm _ h.n
  have h3 := itoa_len (v.s.size : Int) (by omega) (by have := h.s; omega)
  simp [piece, V.t]
  omega
theorem nameF_len : ∀ (r : List V), (∀ v ∈ r, VOk v) → (nameF r).length ≤ 21 * wt r
  | [], _ => by simp [nameF]
  | v :: r, h => by
    have h1 := nameF_len r (fun v hv => h v (by simp [hv]))
    have h2 := piece_len v (h v (by simp))
    have : nameF (v :: r) = piece v ++ nameF r := by simp [nameF]
    rw [this, List.length_append, wt_cons]
    omega

set_option maxRecDepth 100000 in
theorem name_call (r : List V) (hr : ROk r) : G1 75 [.of (rowC r)] (xstr (str (nameF r))) := by
  have lr := hr.len
  refine by_body rfl ok75 body75 ar75 rfl ?_
  simp -implicitDefEqProofs only [Tryd.f75, Z2i, Z2n, Z2g, Z2h, Z2k, Z2l, Z2m, Z2j, Z2f, Z2d, Z2e, Z3i, Z3h, Z3g, Nat.zero_mul, Nat.reduceMul, Z4k, Z13, Z14, List.length_map, Z35, Z34, Z37, Z33, Z36, Z31, Z38, Z32, Z30, Z2z, Tk.nm.injEq, Tk.cell.injEq, false_and, and_false, Z2o, Z4j, Nat.le_add_right, Z5h, Z5i, Z6z, Nat.le_refl, Z5v, Z5u, Z2s, ↓Zx, ↓Zs, ↓Zt, ↓Zw, ↓Zy, ↓Zu, ↓Zv, ↓Zz, ↓Z10, ↓Zl, ↓Z2, ↓Zo, ↓Z3, ↓Zr, ↓Zg, ↓Zc, ↓Zb, ↓Ze, ↓Zd, ↓Zp, ↓Z9, ↓Za, ↓Zm, ↓Zi, ↓Z5, ↓Z6, ↓Zf, ↓Z1, ↓Z7, ↓Z8, ↓Z0, ↓Z4, ↓Zq, ↓Zh, ↓Zk, ↓Zj, ↓Zn, ↓Z64, ↓Z66, ↓Z63, ↓Z65, ↓Z7f, ↓Z7g, ↓Z7e, ↓Z2x, ↓Z2y, ↓Z2w, ↓Z1e, ↓Z1f, ↓Z1d, Z4c, Z1a, ↓Z8a, ↓Z8b, ↓Z89, ↓Z78, ↓Z79, ↓Z77, ↓Z3e, ↓Z3c, ↓Z3d, Z5c, Z5b, Z5g, Z5e, Z5f, Z5d, ↓Z3y, ↓Z3z, ↓Z3x, Z3u, Z3w, Z3v, ↓Z7b, ↓Z7a, ↓Z7d, ↓Z7c, ↓Z1z, ↓Z1y, ↓Z21, ↓Z20, ↓Z6o, ↓Z6p, ↓Z4s, ↓Z4t, Z2p, ↓Z3o, ↓Z3p, Z3s, Z3n, Z3q, Z3r, Z5p, Z5q, Z5o, Z5n, Z5r, Z1n, Z1m, Z1l, Z1k, Z1j, Z1p, Z1g, Z1t, Z1o, Z1r, Z1s, Z1q, Z1h, Z1i, Z88, Z87, Z4d, Z4e, Z4f, Z5y, Z4b, Z4a, Z49, Z48, Z16, Z17, Z15, Z6a, Z6b, Z69, ↓Z68, ↓Z67, Z2q, Z22, Z23, Z25, Z24, Z60, Z5z, Z55, Z56, ↓Z1b, ↓Z1c, Z81, Z80, Z7x, Z84, Z7y, Z83, Z7z, Z82, Z86, Z85, Z5a, Z59, Z7w, Z7t, Z7v, Z7u, Z4r, Z4q, Z4p, Z62, Z61, Z6v, Z6y, Z6w, Z6x, Z40, Z41, Z74, Z72, Z73, Z6u, Z6t, Z2v, Z2u, Z5x, Z5w, Z2r, Z71, Z70, Z6d, Z6c, Z6k, Z6j, Z6l, Z6m, Z6i, Z6h, Z6g, Z6n, Z6f, Z6e, Z58, Z57, Z7p, Z7o, Z7q, Z7r, Z7n, Z7m, Z7l, Z7s, Z7k, Z7j, Z7h, Z7i, Z54, Z53, Z5m, Z11, Z4y, Z4z, Z4x, Z51, Z4w, Z4v, Z4u, Z50, Z12, Z75, Z76, Z43, Z42, Z4o, Z4n, Z4l, Z4m, Z19, Z18, Z29, Z2b, Z2a, Z28, Z2c, Z27, Z26, Z5t, Z3t, Z6r, ↓Z6s, ↓Z6q, Z2t, Z47, Z44, Z45, Z46, Z3m, Z3k, Z3l, Z3j, Z1v, Z1u, Z1w, Z1x, List.any_cons, List.any_nil, Bool.or_true, Bool.true_or, Bool.or_false, Bool.false_or, Bool.and_false, Bool.false_and, Nat.reduceBEq, Z5k, Z5j, Z5l, Z3f, ↓Z39, ↓Z3b, ↓Z3a, Z4i, Z4h, Z4g, Z5s, Nat.reduceLeDiff, Int.reduceLT, Int.reduceLE, Int.reduceAdd, Int.reduceToNat, Int.reduceNeg, Int.cast_ofNat_Int, Nat.reduceLT, List.drop_succ_cons, List.take_succ_cons, List.singleton_append, Nat.zero_add, List.set_cons_zero, List.set_cons_succ, List.drop_nil, List.take_nil, Option.map_some, Option.map_none, Option.getD_some, Option.getD_none, Option.bind_some, List.cons_append, List.nil_append, List.append_nil, List.map_cons, List.map_nil, List.range_zero, List.take_zero, List.flatten_nil, List.filter_nil, List.length_nil, List.length_cons, List.drop_zero, List.not_mem_nil, List.mem_cons, Bool.true_eq_false, Bool.false_eq_true, ↓reduceIte, Nat.reduceEqDiff, Nat.reduceAdd, List.getElem?_toArray, List.toList_toArray, List.getElem?_cons_zero, List.getElem?_cons_succ, decide_eq_true_eq, Z52, beq_self_eq_true, beq_true, decide_true, decide_false, Bool.not_true, Bool.not_false, true_and, and_true, or_false, false_or, Bool.and_eq_true, Bool.and_true, Bool.true_and, reduceCtorEq, not_false_eq_true, rv75, T83, zeroX, U28, len_row]
  refine WC_inv _ _ (fun m s => ∃ (k : Nat) (b : List X) (J : List Ob), k ≤ r.length ∧ m = r.length - k ∧ s.fr 8 = .of (rowC r) ∧ s.fr 9 = xint r.length ∧ s.fr 10 = xint k ∧ s.fr 3 = .ptr 0 0 ∧ s.objs = .var 83 b :: J ∧
    ((k = 0 ∧ b = [.of (.lit (.pointer none)), .nil]) ∨ b = [.ptr 0 0, .own (.cell 0 1) 5 1 (byC (nameF (r.take k))) (nameF (r.take k)).length])) ?_ r.length _ ?_
  · rintro m s ⟨k, b, J, hk1, rfl, h8, h9, h10, h3, ho, hb⟩
    have hw := wrapS k (by omega)
    have w1 : IntKind.i64.wrap 1 = 1 := by decide
    have w2 : IntKind.i64.wrap 2 = 2 := by decide
    have w3 : IntKind.i64.wrap 3 = 3 := by decide
    by_cases c1 : k < r.length
    · have hv := hr.v _ (List.getElem_mem c1)
      have hsn := nameF_snoc r k c1
      generalize hV : r[k] = v at *
      generalize hL : nameF (r.take k) = L at *
      have hLl : L.length ≤ 22020096 := by
        have h1 := nameF_len (r.take k) (fun v hv => hr.v v (List.mem_of_mem_take hv))
        have h2 := wt_take r k c1
        have h3 := hr.wt
        rw [hL] at h1
        omega
      have hvs := hv.s
      have hkk := hv.k
      have hnn := hv.n
      have hss : small64 (v.s.size : Int) = true := by simp only [small64, decide_eq_true_eq]; omega
      have i1 := sm _ hkk
      have i2 := sm _ hnn
      have i3 := sm _ hss
      have b1 : L.length + (Lib.itoa v.k).length ≤ LIM := by unfold LIM; omega
      have b2 : (L ++ Lib.itoa v.k).length + 1 ≤ LIM := by unfold LIM; simp; omega
      have b3 : (L ++ Lib.itoa v.k ++ [32]).length + (Lib.itoa v.n).length ≤ LIM := by unfold LIM; simp; omega
      have b4 : (L ++ Lib.itoa v.k ++ [32] ++ Lib.itoa v.n).length + 1 ≤ LIM := by unfold LIM; simp; omega
      have b5 : (L ++ Lib.itoa v.k ++ [32] ++ Lib.itoa v.n ++ [32]).length + (Lib.itoa v.s.size).length ≤ LIM := by unfold LIM; simp; omega
      have b6 : (L ++ Lib.itoa v.k ++ [32] ++ Lib.itoa v.n ++ [32] ++ Lib.itoa v.s.size).length + 1 ≤ LIM := by unfold LIM; simp; omega
      have b7 : (L ++ Lib.itoa v.k ++ [32] ++ Lib.itoa v.n ++ [32] ++ Lib.itoa v.s.size ++ [32]).length + v.s.size ≤ LIM := by unfold LIM; simp; omega
      have e32 : UInt8.ofNat 32 = 32 := rfl
      have e32' : (0 : Int) ≤ 32 ∧ (32 : Int) < 256 := by omega
      rcases hb with ⟨hk0, rfl⟩ | rfl
      · have ldv := ld_row r k c1
        rw [hV] at ldv
        have hL0 : L = [] := by rw [← hL, hk0]; rfl
        subst hL0
        simp only [List.nil_append] at b1 b2 b3 b4 b5 b6 b7
        have b0 : (Lib.itoa v.k).length ≤ LIM := by unfold LIM; omega
        simp -implicitDefEqProofs only [Z2i, Z2n, Z2g, Z2h, Z2k, Z2l, Z2m, Z2j, Z2f, Z2d, Z2e, Z3i, Z3h, Z3g, Nat.zero_mul, Nat.reduceMul, Z4k, Z13, Z14, List.length_map, Z35, Z34, Z37, Z33, Z36, Z31, Z38, Z32, Z30, Z2z, Tk.nm.injEq, Tk.cell.injEq, false_and, and_false, Z2o, Z4j, Nat.le_add_right, Z5h, Z5i, Z6z, Nat.le_refl, Z5v, Z5u, Z2s, ↓Zx, ↓Zs, ↓Zt, ↓Zw, ↓Zy, ↓Zu, ↓Zv, ↓Zz, ↓Z10, ↓Zl, ↓Z2, ↓Zo, ↓Z3, ↓Zr, ↓Zg, ↓Zc, ↓Zb, ↓Ze, ↓Zd, ↓Zp, ↓Z9, ↓Za, ↓Zm, ↓Zi, ↓Z5, ↓Z6, ↓Zf, ↓Z1, ↓Z7, ↓Z8, ↓Z0, ↓Z4, ↓Zq, ↓Zh, ↓Zk, ↓Zj, ↓Zn, ↓Z64, ↓Z66, ↓Z63, ↓Z65, ↓Z7f, ↓Z7g, ↓Z7e, ↓Z2x, ↓Z2y, ↓Z2w, ↓Z1e, ↓Z1f, ↓Z1d, Z4c, Z1a, ↓Z8a, ↓Z8b, ↓Z89, ↓Z78, ↓Z79, ↓Z77, ↓Z3e, ↓Z3c, ↓Z3d, Z5c, Z5b, Z5g, Z5e, Z5f, Z5d, ↓Z3y, ↓Z3z, ↓Z3x, Z3u, Z3w, Z3v, ↓Z7b, ↓Z7a, ↓Z7d, ↓Z7c, ↓Z1z, ↓Z1y, ↓Z21, ↓Z20, ↓Z6o, ↓Z6p, ↓Z4s, ↓Z4t, Z2p, ↓Z3o, ↓Z3p, Z3s, Z3n, Z3q, Z3r, Z5p, Z5q, Z5o, Z5n, Z5r, Z1n, Z1m, Z1l, Z1k, Z1j, Z1p, Z1g, Z1t, Z1o, Z1r, Z1s, Z1q, Z1h, Z1i, Z88, Z87, Z4d, Z4e, Z4f, Z5y, Z4b, Z4a, Z49, Z48, Z16, Z17, Z15, Z6a, Z6b, Z69, ↓Z68, ↓Z67, Z2q, Z22, Z23, Z25, Z24, Z60, Z5z, Z55, Z56, ↓Z1b, ↓Z1c, Z81, Z80, Z7x, Z84, Z7y, Z83, Z7z, Z82, Z86, Z85, Z5a, Z59, Z7w, Z7t, Z7v, Z7u, Z4r, Z4q, Z4p, Z62, Z61, Z6v, Z6y, Z6w, Z6x, Z40, Z41, Z74, Z72, Z73, Z6u, Z6t, Z2v, Z2u, Z5x, Z5w, Z2r, Z71, Z70, Z6d, Z6c, Z6k, Z6j, Z6l, Z6m, Z6i, Z6h, Z6g, Z6n, Z6f, Z6e, Z58, Z57, Z7p, Z7o, Z7q, Z7r, Z7n, Z7m, Z7l, Z7s, Z7k, Z7j, Z7h, Z7i, Z54, Z53, Z5m, Z11, Z4y, Z4z, Z4x, Z51, Z4w, Z4v, Z4u, Z50, Z12, Z75, Z76, Z43, Z42, Z4o, Z4n, Z4l, Z4m, Z19, Z18, Z29, Z2b, Z2a, Z28, Z2c, Z27, Z26, Z5t, Z3t, Z6r, ↓Z6s, ↓Z6q, Z2t, Z47, Z44, Z45, Z46, Z3m, Z3k, Z3l, Z3j, Z1v, Z1u, Z1w, Z1x, List.any_cons, List.any_nil, Bool.or_true, Bool.true_or, Bool.or_false, Bool.false_or, Bool.and_false, Bool.false_and, Nat.reduceBEq, Z5k, Z5j, Z5l, Z3f, ↓Z39, ↓Z3b, ↓Z3a, Z4i, Z4h, Z4g, Z5s, Nat.reduceLeDiff, Int.reduceLT, Int.reduceLE, Int.reduceAdd, Int.reduceToNat, Int.reduceNeg, Int.cast_ofNat_Int, Nat.reduceLT, List.drop_succ_cons, List.take_succ_cons, List.singleton_append, Nat.zero_add, List.set_cons_zero, List.set_cons_succ, List.drop_nil, List.take_nil, Option.map_some, Option.map_none, Option.getD_some, Option.getD_none, Option.bind_some, List.cons_append, List.nil_append, List.append_nil, List.map_cons, List.map_nil, List.range_zero, List.take_zero, List.flatten_nil, List.filter_nil, List.length_nil, List.length_cons, List.drop_zero, List.not_mem_nil, List.mem_cons, Bool.true_eq_false, Bool.false_eq_true, ↓reduceIte, Nat.reduceEqDiff, Nat.reduceAdd, List.getElem?_toArray, List.toList_toArray, List.getElem?_cons_zero, List.getElem?_cons_succ, decide_eq_true_eq, Z52, beq_self_eq_true, beq_true, decide_true, decide_false, Bool.not_true, Bool.not_false, true_and, and_true, or_false, false_or, Bool.and_eq_true, Bool.and_true, Bool.true_and, reduceCtorEq, not_false_eq_true, h3, h8, h9, h10, ho, U28, U3, U9, U4, len_row, ia_row r k c1, ldv, cells_val, T34, zeroX, fa34_0, fa34_1, fa34_2, P3, P9, Z4b, B29, index_agg T29 rfl T3, ItoaN_k, hkk, hnn, hss, WS_k, WB_k, b1, b2, b3, b4, b5, b6, b7, e32, e32', str_size, str_list, pr_obj, pr_tk, obj83, call83, obj87, tk87, call87, obj88, tk88, call88, Int.ofNat_lt, c1, hw, w1, w2, w3, WS_k0, b0]
        rw [WC_loop]
        simp -implicitDefEqProofs only [Z2i, Z2n, Z2g, Z2h, Z2k, Z2l, Z2m, Z2j, Z2f, Z2d, Z2e, Z3i, Z3h, Z3g, Nat.zero_mul, Nat.reduceMul, Z4k, Z13, Z14, List.length_map, Z35, Z34, Z37, Z33, Z36, Z31, Z38, Z32, Z30, Z2z, Tk.nm.injEq, Tk.cell.injEq, false_and, and_false, Z2o, Z4j, Nat.le_add_right, Z5h, Z5i, Z6z, Nat.le_refl, Z5v, Z5u, Z2s, ↓Zx, ↓Zs, ↓Zt, ↓Zw, ↓Zy, ↓Zu, ↓Zv, ↓Zz, ↓Z10, ↓Zl, ↓Z2, ↓Zo, ↓Z3, ↓Zr, ↓Zg, ↓Zc, ↓Zb, ↓Ze, ↓Zd, ↓Zp, ↓Z9, ↓Za, ↓Zm, ↓Zi, ↓Z5, ↓Z6, ↓Zf, ↓Z1, ↓Z7, ↓Z8, ↓Z0, ↓Z4, ↓Zq, ↓Zh, ↓Zk, ↓Zj, ↓Zn, ↓Z64, ↓Z66, ↓Z63, ↓Z65, ↓Z7f, ↓Z7g, ↓Z7e, ↓Z2x, ↓Z2y, ↓Z2w, ↓Z1e, ↓Z1f, ↓Z1d, Z4c, Z1a, ↓Z8a, ↓Z8b, ↓Z89, ↓Z78, ↓Z79, ↓Z77, ↓Z3e, ↓Z3c, ↓Z3d, Z5c, Z5b, Z5g, Z5e, Z5f, Z5d, ↓Z3y, ↓Z3z, ↓Z3x, Z3u, Z3w, Z3v, ↓Z7b, ↓Z7a, ↓Z7d, ↓Z7c, ↓Z1z, ↓Z1y, ↓Z21, ↓Z20, ↓Z6o, ↓Z6p, ↓Z4s, ↓Z4t, Z2p, ↓Z3o, ↓Z3p, Z3s, Z3n, Z3q, Z3r, Z5p, Z5q, Z5o, Z5n, Z5r, Z1n, Z1m, Z1l, Z1k, Z1j, Z1p, Z1g, Z1t, Z1o, Z1r, Z1s, Z1q, Z1h, Z1i, Z88, Z87, Z4d, Z4e, Z4f, Z5y, Z4b, Z4a, Z49, Z48, Z16, Z17, Z15, Z6a, Z6b, Z69, ↓Z68, ↓Z67, Z2q, Z22, Z23, Z25, Z24, Z60, Z5z, Z55, Z56, ↓Z1b, ↓Z1c, Z81, Z80, Z7x, Z84, Z7y, Z83, Z7z, Z82, Z86, Z85, Z5a, Z59, Z7w, Z7t, Z7v, Z7u, Z4r, Z4q, Z4p, Z62, Z61, Z6v, Z6y, Z6w, Z6x, Z40, Z41, Z74, Z72, Z73, Z6u, Z6t, Z2v, Z2u, Z5x, Z5w, Z2r, Z71, Z70, Z6d, Z6c, Z6k, Z6j, Z6l, Z6m, Z6i, Z6h, Z6g, Z6n, Z6f, Z6e, Z58, Z57, Z7p, Z7o, Z7q, Z7r, Z7n, Z7m, Z7l, Z7s, Z7k, Z7j, Z7h, Z7i, Z54, Z53, Z5m, Z11, Z4y, Z4z, Z4x, Z51, Z4w, Z4v, Z4u, Z50, Z12, Z75, Z76, Z43, Z42, Z4o, Z4n, Z4l, Z4m, Z19, Z18, Z29, Z2b, Z2a, Z28, Z2c, Z27, Z26, Z5t, Z3t, Z6r, ↓Z6s, ↓Z6q, Z2t, Z47, Z44, Z45, Z46, Z3m, Z3k, Z3l, Z3j, Z1v, Z1u, Z1w, Z1x, List.any_cons, List.any_nil, Bool.or_true, Bool.true_or, Bool.or_false, Bool.false_or, Bool.and_false, Bool.false_and, Nat.reduceBEq, Z5k, Z5j, Z5l, Z3f, ↓Z39, ↓Z3b, ↓Z3a, Z4i, Z4h, Z4g, Z5s, Nat.reduceLeDiff, Int.reduceLT, Int.reduceLE, Int.reduceAdd, Int.reduceToNat, Int.reduceNeg, Int.cast_ofNat_Int, Nat.reduceLT, List.drop_succ_cons, List.take_succ_cons, List.singleton_append, Nat.zero_add, List.set_cons_zero, List.set_cons_succ, List.drop_nil, List.take_nil, Option.map_some, Option.map_none, Option.getD_some, Option.getD_none, Option.bind_some, List.cons_append, List.nil_append, List.append_nil, List.map_cons, List.map_nil, List.range_zero, List.take_zero, List.flatten_nil, List.filter_nil, List.length_nil, List.length_cons, List.drop_zero, List.not_mem_nil, List.mem_cons, Bool.true_eq_false, Bool.false_eq_true, ↓reduceIte, Nat.reduceEqDiff, Nat.reduceAdd, List.getElem?_toArray, List.toList_toArray, List.getElem?_cons_zero, List.getElem?_cons_succ, decide_eq_true_eq, Z52, beq_self_eq_true, beq_true, decide_true, decide_false, Bool.not_true, Bool.not_false, true_and, and_true, or_false, false_or, Bool.and_eq_true, Bool.and_true, Bool.true_and, reduceCtorEq, not_false_eq_true, h3, h8, h9, h10, ho, U28, U3, U9, U4, len_row, ia_row r k c1, ldv, cells_val, T34, zeroX, fa34_0, fa34_1, fa34_2, P3, P9, Z4b, B29, index_agg T29 rfl T3, ItoaN_k, hkk, hnn, hss, WS_k, WB_k, b1, b2, b3, b4, b5, b6, b7, e32, e32', str_size, str_list, pr_obj, pr_tk, obj83, call83, obj87, tk87, call87, obj88, tk88, call88, Int.ofNat_lt, c1, hw, w1, w2, w3, WS_k0, b0]
        rw [WC_loop]
        simp -implicitDefEqProofs only [Z2i, Z2n, Z2g, Z2h, Z2k, Z2l, Z2m, Z2j, Z2f, Z2d, Z2e, Z3i, Z3h, Z3g, Nat.zero_mul, Nat.reduceMul, Z4k, Z13, Z14, List.length_map, Z35, Z34, Z37, Z33, Z36, Z31, Z38, Z32, Z30, Z2z, Tk.nm.injEq, Tk.cell.injEq, false_and, and_false, Z2o, Z4j, Nat.le_add_right, Z5h, Z5i, Z6z, Nat.le_refl, Z5v, Z5u, Z2s, ↓Zx, ↓Zs, ↓Zt, ↓Zw, ↓Zy, ↓Zu, ↓Zv, ↓Zz, ↓Z10, ↓Zl, ↓Z2, ↓Zo, ↓Z3, ↓Zr, ↓Zg, ↓Zc, ↓Zb, ↓Ze, ↓Zd, ↓Zp, ↓Z9, ↓Za, ↓Zm, ↓Zi, ↓Z5, ↓Z6, ↓Zf, ↓Z1, ↓Z7, ↓Z8, ↓Z0, ↓Z4, ↓Zq, ↓Zh, ↓Zk, ↓Zj, ↓Zn, ↓Z64, ↓Z66, ↓Z63, ↓Z65, ↓Z7f, ↓Z7g, ↓Z7e, ↓Z2x, ↓Z2y, ↓Z2w, ↓Z1e, ↓Z1f, ↓Z1d, Z4c, Z1a, ↓Z8a, ↓Z8b, ↓Z89, ↓Z78, ↓Z79, ↓Z77, ↓Z3e, ↓Z3c, ↓Z3d, Z5c, Z5b, Z5g, Z5e, Z5f, Z5d, ↓Z3y, ↓Z3z, ↓Z3x, Z3u, Z3w, Z3v, ↓Z7b, ↓Z7a, ↓Z7d, ↓Z7c, ↓Z1z, ↓Z1y, ↓Z21, ↓Z20, ↓Z6o, ↓Z6p, ↓Z4s, ↓Z4t, Z2p, ↓Z3o, ↓Z3p, Z3s, Z3n, Z3q, Z3r, Z5p, Z5q, Z5o, Z5n, Z5r, Z1n, Z1m, Z1l, Z1k, Z1j, Z1p, Z1g, Z1t, Z1o, Z1r, Z1s, Z1q, Z1h, Z1i, Z88, Z87, Z4d, Z4e, Z4f, Z5y, Z4b, Z4a, Z49, Z48, Z16, Z17, Z15, Z6a, Z6b, Z69, ↓Z68, ↓Z67, Z2q, Z22, Z23, Z25, Z24, Z60, Z5z, Z55, Z56, ↓Z1b, ↓Z1c, Z81, Z80, Z7x, Z84, Z7y, Z83, Z7z, Z82, Z86, Z85, Z5a, Z59, Z7w, Z7t, Z7v, Z7u, Z4r, Z4q, Z4p, Z62, Z61, Z6v, Z6y, Z6w, Z6x, Z40, Z41, Z74, Z72, Z73, Z6u, Z6t, Z2v, Z2u, Z5x, Z5w, Z2r, Z71, Z70, Z6d, Z6c, Z6k, Z6j, Z6l, Z6m, Z6i, Z6h, Z6g, Z6n, Z6f, Z6e, Z58, Z57, Z7p, Z7o, Z7q, Z7r, Z7n, Z7m, Z7l, Z7s, Z7k, Z7j, Z7h, Z7i, Z54, Z53, Z5m, Z11, Z4y, Z4z, Z4x, Z51, Z4w, Z4v, Z4u, Z50, Z12, Z75, Z76, Z43, Z42, Z4o, Z4n, Z4l, Z4m, Z19, Z18, Z29, Z2b, Z2a, Z28, Z2c, Z27, Z26, Z5t, Z3t, Z6r, ↓Z6s, ↓Z6q, Z2t, Z47, Z44, Z45, Z46, Z3m, Z3k, Z3l, Z3j, Z1v, Z1u, Z1w, Z1x, List.any_cons, List.any_nil, Bool.or_true, Bool.true_or, Bool.or_false, Bool.false_or, Bool.and_false, Bool.false_and, Nat.reduceBEq, Z5k, Z5j, Z5l, Z3f, ↓Z39, ↓Z3b, ↓Z3a, Z4i, Z4h, Z4g, Z5s, Nat.reduceLeDiff, Int.reduceLT, Int.reduceLE, Int.reduceAdd, Int.reduceToNat, Int.reduceNeg, Int.cast_ofNat_Int, Nat.reduceLT, List.drop_succ_cons, List.take_succ_cons, List.singleton_append, Nat.zero_add, List.set_cons_zero, List.set_cons_succ, List.drop_nil, List.take_nil, Option.map_some, Option.map_none, Option.getD_some, Option.getD_none, Option.bind_some, List.cons_append, List.nil_append, List.append_nil, List.map_cons, List.map_nil, List.range_zero, List.take_zero, List.flatten_nil, List.filter_nil, List.length_nil, List.length_cons, List.drop_zero, List.not_mem_nil, List.mem_cons, Bool.true_eq_false, Bool.false_eq_true, ↓reduceIte, Nat.reduceEqDiff, Nat.reduceAdd, List.getElem?_toArray, List.toList_toArray, List.getElem?_cons_zero, List.getElem?_cons_succ, decide_eq_true_eq, Z52, beq_self_eq_true, beq_true, decide_true, decide_false, Bool.not_true, Bool.not_false, true_and, and_true, or_false, false_or, Bool.and_eq_true, Bool.and_true, Bool.true_and, reduceCtorEq, not_false_eq_true, h3, h8, h9, h10, ho, U28, U3, U9, U4, len_row, ia_row r k c1, ldv, cells_val, T34, zeroX, fa34_0, fa34_1, fa34_2, P3, P9, Z4b, B29, index_agg T29 rfl T3, ItoaN_k, hkk, hnn, hss, WS_k, WB_k, b1, b2, b3, b4, b5, b6, b7, e32, e32', str_size, str_list, pr_obj, pr_tk, obj83, call83, obj87, tk87, call87, obj88, tk88, call88, Int.ofNat_lt, c1, hw, w1, w2, w3]
        rw [WC_loop]
        simp -implicitDefEqProofs only [Z2i, Z2n, Z2g, Z2h, Z2k, Z2l, Z2m, Z2j, Z2f, Z2d, Z2e, Z3i, Z3h, Z3g, Nat.zero_mul, Nat.reduceMul, Z4k, Z13, Z14, List.length_map, Z35, Z34, Z37, Z33, Z36, Z31, Z38, Z32, Z30, Z2z, Tk.nm.injEq, Tk.cell.injEq, false_and, and_false, Z2o, Z4j, Nat.le_add_right, Z5h, Z5i, Z6z, Nat.le_refl, Z5v, Z5u, Z2s, ↓Zx, ↓Zs, ↓Zt, ↓Zw, ↓Zy, ↓Zu, ↓Zv, ↓Zz, ↓Z10, ↓Zl, ↓Z2, ↓Zo, ↓Z3, ↓Zr, ↓Zg, ↓Zc, ↓Zb, ↓Ze, ↓Zd, ↓Zp, ↓Z9, ↓Za, ↓Zm, ↓Zi, ↓Z5, ↓Z6, ↓Zf, ↓Z1, ↓Z7, ↓Z8, ↓Z0, ↓Z4, ↓Zq, ↓Zh, ↓Zk, ↓Zj, ↓Zn, ↓Z64, ↓Z66, ↓Z63, ↓Z65, ↓Z7f, ↓Z7g, ↓Z7e, ↓Z2x, ↓Z2y, ↓Z2w, ↓Z1e, ↓Z1f, ↓Z1d, Z4c, Z1a, ↓Z8a, ↓Z8b, ↓Z89, ↓Z78, ↓Z79, ↓Z77, ↓Z3e, ↓Z3c, ↓Z3d, Z5c, Z5b, Z5g, Z5e, Z5f, Z5d, ↓Z3y, ↓Z3z, ↓Z3x, Z3u, Z3w, Z3v, ↓Z7b, ↓Z7a, ↓Z7d, ↓Z7c, ↓Z1z, ↓Z1y, ↓Z21, ↓Z20, ↓Z6o, ↓Z6p, ↓Z4s, ↓Z4t, Z2p, ↓Z3o, ↓Z3p, Z3s, Z3n, Z3q, Z3r, Z5p, Z5q, Z5o, Z5n, Z5r, Z1n, Z1m, Z1l, Z1k, Z1j, Z1p, Z1g, Z1t, Z1o, Z1r, Z1s, Z1q, Z1h, Z1i, Z88, Z87, Z4d, Z4e, Z4f, Z5y, Z4b, Z4a, Z49, Z48, Z16, Z17, Z15, Z6a, Z6b, Z69, ↓Z68, ↓Z67, Z2q, Z22, Z23, Z25, Z24, Z60, Z5z, Z55, Z56, ↓Z1b, ↓Z1c, Z81, Z80, Z7x, Z84, Z7y, Z83, Z7z, Z82, Z86, Z85, Z5a, Z59, Z7w, Z7t, Z7v, Z7u, Z4r, Z4q, Z4p, Z62, Z61, Z6v, Z6y, Z6w, Z6x, Z40, Z41, Z74, Z72, Z73, Z6u, Z6t, Z2v, Z2u, Z5x, Z5w, Z2r, Z71, Z70, Z6d, Z6c, Z6k, Z6j, Z6l, Z6m, Z6i, Z6h, Z6g, Z6n, Z6f, Z6e, Z58, Z57, Z7p, Z7o, Z7q, Z7r, Z7n, Z7m, Z7l, Z7s, Z7k, Z7j, Z7h, Z7i, Z54, Z53, Z5m, Z11, Z4y, Z4z, Z4x, Z51, Z4w, Z4v, Z4u, Z50, Z12, Z75, Z76, Z43, Z42, Z4o, Z4n, Z4l, Z4m, Z19, Z18, Z29, Z2b, Z2a, Z28, Z2c, Z27, Z26, Z5t, Z3t, Z6r, ↓Z6s, ↓Z6q, Z2t, Z47, Z44, Z45, Z46, Z3m, Z3k, Z3l, Z3j, Z1v, Z1u, Z1w, Z1x, List.any_cons, List.any_nil, Bool.or_true, Bool.true_or, Bool.or_false, Bool.false_or, Bool.and_false, Bool.false_and, Nat.reduceBEq, Z5k, Z5j, Z5l, Z3f, ↓Z39, ↓Z3b, ↓Z3a, Z4i, Z4h, Z4g, Z5s, Nat.reduceLeDiff, Int.reduceLT, Int.reduceLE, Int.reduceAdd, Int.reduceToNat, Int.reduceNeg, Int.cast_ofNat_Int, Nat.reduceLT, List.drop_succ_cons, List.take_succ_cons, List.singleton_append, Nat.zero_add, List.set_cons_zero, List.set_cons_succ, List.drop_nil, List.take_nil, Option.map_some, Option.map_none, Option.getD_some, Option.getD_none, Option.bind_some, List.cons_append, List.nil_append, List.append_nil, List.map_cons, List.map_nil, List.range_zero, List.take_zero, List.flatten_nil, List.filter_nil, List.length_nil, List.length_cons, List.drop_zero, List.not_mem_nil, List.mem_cons, Bool.true_eq_false, Bool.false_eq_true, ↓reduceIte, Nat.reduceEqDiff, Nat.reduceAdd, List.getElem?_toArray, List.toList_toArray, List.getElem?_cons_zero, List.getElem?_cons_succ, decide_eq_true_eq, Z52, beq_self_eq_true, beq_true, decide_true, decide_false, Bool.not_true, Bool.not_false, true_and, and_true, or_false, false_or, Bool.and_eq_true, Bool.and_true, Bool.true_and, reduceCtorEq, not_false_eq_true, h3, h8, h9, h10, ho, U28, U3, U9, U4, len_row, ia_row r k c1, ldv, cells_val, T34, zeroX, fa34_0, fa34_1, fa34_2, P3, P9, Z4b, B29, index_agg T29 rfl T3, ItoaN_k, hkk, hnn, hss, WS_k, WB_k, b1, b2, b3, b4, b5, b6, b7, e32, e32', str_size, str_list, pr_obj, pr_tk, obj83, call83, obj87, tk87, call87, obj88, tk88, call88, Int.ofNat_lt, c1, hw, w1, w2, w3]
        rw [WC_loop]
        simp -implicitDefEqProofs only [Z2i, Z2n, Z2g, Z2h, Z2k, Z2l, Z2m, Z2j, Z2f, Z2d, Z2e, Z3i, Z3h, Z3g, Nat.zero_mul, Nat.reduceMul, Z4k, Z13, Z14, List.length_map, Z35, Z34, Z37, Z33, Z36, Z31, Z38, Z32, Z30, Z2z, Tk.nm.injEq, Tk.cell.injEq, false_and, and_false, Z2o, Z4j, Nat.le_add_right, Z5h, Z5i, Z6z, Nat.le_refl, Z5v, Z5u, Z2s, ↓Zx, ↓Zs, ↓Zt, ↓Zw, ↓Zy, ↓Zu, ↓Zv, ↓Zz, ↓Z10, ↓Zl, ↓Z2, ↓Zo, ↓Z3, ↓Zr, ↓Zg, ↓Zc, ↓Zb, ↓Ze, ↓Zd, ↓Zp, ↓Z9, ↓Za, ↓Zm, ↓Zi, ↓Z5, ↓Z6, ↓Zf, ↓Z1, ↓Z7, ↓Z8, ↓Z0, ↓Z4, ↓Zq, ↓Zh, ↓Zk, ↓Zj, ↓Zn, ↓Z64, ↓Z66, ↓Z63, ↓Z65, ↓Z7f, ↓Z7g, ↓Z7e, ↓Z2x, ↓Z2y, ↓Z2w, ↓Z1e, ↓Z1f, ↓Z1d, Z4c, Z1a, ↓Z8a, ↓Z8b, ↓Z89, ↓Z78, ↓Z79, ↓Z77, ↓Z3e, ↓Z3c, ↓Z3d, Z5c, Z5b, Z5g, Z5e, Z5f, Z5d, ↓Z3y, ↓Z3z, ↓Z3x, Z3u, Z3w, Z3v, ↓Z7b, ↓Z7a, ↓Z7d, ↓Z7c, ↓Z1z, ↓Z1y, ↓Z21, ↓Z20, ↓Z6o, ↓Z6p, ↓Z4s, ↓Z4t, Z2p, ↓Z3o, ↓Z3p, Z3s, Z3n, Z3q, Z3r, Z5p, Z5q, Z5o, Z5n, Z5r, Z1n, Z1m, Z1l, Z1k, Z1j, Z1p, Z1g, Z1t, Z1o, Z1r, Z1s, Z1q, Z1h, Z1i, Z88, Z87, Z4d, Z4e, Z4f, Z5y, Z4b, Z4a, Z49, Z48, Z16, Z17, Z15, Z6a, Z6b, Z69, ↓Z68, ↓Z67, Z2q, Z22, Z23, Z25, Z24, Z60, Z5z, Z55, Z56, ↓Z1b, ↓Z1c, Z81, Z80, Z7x, Z84, Z7y, Z83, Z7z, Z82, Z86, Z85, Z5a, Z59, Z7w, Z7t, Z7v, Z7u, Z4r, Z4q, Z4p, Z62, Z61, Z6v, Z6y, Z6w, Z6x, Z40, Z41, Z74, Z72, Z73, Z6u, Z6t, Z2v, Z2u, Z5x, Z5w, Z2r, Z71, Z70, Z6d, Z6c, Z6k, Z6j, Z6l, Z6m, Z6i, Z6h, Z6g, Z6n, Z6f, Z6e, Z58, Z57, Z7p, Z7o, Z7q, Z7r, Z7n, Z7m, Z7l, Z7s, Z7k, Z7j, Z7h, Z7i, Z54, Z53, Z5m, Z11, Z4y, Z4z, Z4x, Z51, Z4w, Z4v, Z4u, Z50, Z12, Z75, Z76, Z43, Z42, Z4o, Z4n, Z4l, Z4m, Z19, Z18, Z29, Z2b, Z2a, Z28, Z2c, Z27, Z26, Z5t, Z3t, Z6r, ↓Z6s, ↓Z6q, Z2t, Z47, Z44, Z45, Z46, Z3m, Z3k, Z3l, Z3j, Z1v, Z1u, Z1w, Z1x, List.any_cons, List.any_nil, Bool.or_true, Bool.true_or, Bool.or_false, Bool.false_or, Bool.and_false, Bool.false_and, Nat.reduceBEq, Z5k, Z5j, Z5l, Z3f, ↓Z39, ↓Z3b, ↓Z3a, Z4i, Z4h, Z4g, Z5s, Nat.reduceLeDiff, Int.reduceLT, Int.reduceLE, Int.reduceAdd, Int.reduceToNat, Int.reduceNeg, Int.cast_ofNat_Int, Nat.reduceLT, List.drop_succ_cons, List.take_succ_cons, List.singleton_append, Nat.zero_add, List.set_cons_zero, List.set_cons_succ, List.drop_nil, List.take_nil, Option.map_some, Option.map_none, Option.getD_some, Option.getD_none, Option.bind_some, List.cons_append, List.nil_append, List.append_nil, List.map_cons, List.map_nil, List.range_zero, List.take_zero, List.flatten_nil, List.filter_nil, List.length_nil, List.length_cons, List.drop_zero, List.not_mem_nil, List.mem_cons, Bool.true_eq_false, Bool.false_eq_true, ↓reduceIte, Nat.reduceEqDiff, Nat.reduceAdd, List.getElem?_toArray, List.toList_toArray, List.getElem?_cons_zero, List.getElem?_cons_succ, decide_eq_true_eq, Z52, beq_self_eq_true, beq_true, decide_true, decide_false, Bool.not_true, Bool.not_false, true_and, and_true, or_false, false_or, Bool.and_eq_true, Bool.and_true, Bool.true_and, reduceCtorEq, not_false_eq_true, h3, h8, h9, h10, ho, U28, U3, U9, U4, len_row, ia_row r k c1, ldv, cells_val, T34, zeroX, fa34_0, fa34_1, fa34_2, P3, P9, Z4b, B29, index_agg T29 rfl T3, ItoaN_k, hkk, hnn, hss, WS_k, WB_k, b1, b2, b3, b4, b5, b6, b7, e32, e32', str_size, str_list, pr_obj, pr_tk, obj83, call83, obj87, tk87, call87, obj88, tk88, call88, Int.ofNat_lt, c1, hw, w1, w2, w3]
        refine ⟨_, ?_, k + 1, _, _, by omega, rfl, rfl, rfl, .inr ?_⟩
        · omega
        · rw [hsn, piece]
          simp only [List.append_assoc, V.t, List.nil_append]
      · have ldv := ld_row r k c1
        rw [hV] at ldv
        simp -implicitDefEqProofs only [Z2i, Z2n, Z2g, Z2h, Z2k, Z2l, Z2m, Z2j, Z2f, Z2d, Z2e, Z3i, Z3h, Z3g, Nat.zero_mul, Nat.reduceMul, Z4k, Z13, Z14, List.length_map, Z35, Z34, Z37, Z33, Z36, Z31, Z38, Z32, Z30, Z2z, Tk.nm.injEq, Tk.cell.injEq, false_and, and_false, Z2o, Z4j, Nat.le_add_right, Z5h, Z5i, Z6z, Nat.le_refl, Z5v, Z5u, Z2s, ↓Zx, ↓Zs, ↓Zt, ↓Zw, ↓Zy, ↓Zu, ↓Zv, ↓Zz, ↓Z10, ↓Zl, ↓Z2, ↓Zo, ↓Z3, ↓Zr, ↓Zg, ↓Zc, ↓Zb, ↓Ze, ↓Zd, ↓Zp, ↓Z9, ↓Za, ↓Zm, ↓Zi, ↓Z5, ↓Z6, ↓Zf, ↓Z1, ↓Z7, ↓Z8, ↓Z0, ↓Z4, ↓Zq, ↓Zh, ↓Zk, ↓Zj, ↓Zn, ↓Z64, ↓Z66, ↓Z63, ↓Z65, ↓Z7f, ↓Z7g, ↓Z7e, ↓Z2x, ↓Z2y, ↓Z2w, ↓Z1e, ↓Z1f, ↓Z1d, Z4c, Z1a, ↓Z8a, ↓Z8b, ↓Z89, ↓Z78, ↓Z79, ↓Z77, ↓Z3e, ↓Z3c, ↓Z3d, Z5c, Z5b, Z5g, Z5e, Z5f, Z5d, ↓Z3y, ↓Z3z, ↓Z3x, Z3u, Z3w, Z3v, ↓Z7b, ↓Z7a, ↓Z7d, ↓Z7c, ↓Z1z, ↓Z1y, ↓Z21, ↓Z20, ↓Z6o, ↓Z6p, ↓Z4s, ↓Z4t, Z2p, ↓Z3o, ↓Z3p, Z3s, Z3n, Z3q, Z3r, Z5p, Z5q, Z5o, Z5n, Z5r, Z1n, Z1m, Z1l, Z1k, Z1j, Z1p, Z1g, Z1t, Z1o, Z1r, Z1s, Z1q, Z1h, Z1i, Z88, Z87, Z4d, Z4e, Z4f, Z5y, Z4b, Z4a, Z49, Z48, Z16, Z17, Z15, Z6a, Z6b, Z69, ↓Z68, ↓Z67, Z2q, Z22, Z23, Z25, Z24, Z60, Z5z, Z55, Z56, ↓Z1b, ↓Z1c, Z81, Z80, Z7x, Z84, Z7y, Z83, Z7z, Z82, Z86, Z85, Z5a, Z59, Z7w, Z7t, Z7v, Z7u, Z4r, Z4q, Z4p, Z62, Z61, Z6v, Z6y, Z6w, Z6x, Z40, Z41, Z74, Z72, Z73, Z6u, Z6t, Z2v, Z2u, Z5x, Z5w, Z2r, Z71, Z70, Z6d, Z6c, Z6k, Z6j, Z6l, Z6m, Z6i, Z6h, Z6g, Z6n, Z6f, Z6e, Z58, Z57, Z7p, Z7o, Z7q, Z7r, Z7n, Z7m, Z7l, Z7s, Z7k, Z7j, Z7h, Z7i, Z54, Z53, Z5m, Z11, Z4y, Z4z, Z4x, Z51, Z4w, Z4v, Z4u, Z50, Z12, Z75, Z76, Z43, Z42, Z4o, Z4n, Z4l, Z4m, Z19, Z18, Z29, Z2b, Z2a, Z28, Z2c, Z27, Z26, Z5t, Z3t, Z6r, ↓Z6s, ↓Z6q, Z2t, Z47, Z44, Z45, Z46, Z3m, Z3k, Z3l, Z3j, Z1v, Z1u, Z1w, Z1x, List.any_cons, List.any_nil, Bool.or_true, Bool.true_or, Bool.or_false, Bool.false_or, Bool.and_false, Bool.false_and, Nat.reduceBEq, Z5k, Z5j, Z5l, Z3f, ↓Z39, ↓Z3b, ↓Z3a, Z4i, Z4h, Z4g, Z5s, Nat.reduceLeDiff, Int.reduceLT, Int.reduceLE, Int.reduceAdd, Int.reduceToNat, Int.reduceNeg, Int.cast_ofNat_Int, Nat.reduceLT, List.drop_succ_cons, List.take_succ_cons, List.singleton_append, Nat.zero_add, List.set_cons_zero, List.set_cons_succ, List.drop_nil, List.take_nil, Option.map_some, Option.map_none, Option.getD_some, Option.getD_none, Option.bind_some, List.cons_append, List.nil_append, List.append_nil, List.map_cons, List.map_nil, List.range_zero, List.take_zero, List.flatten_nil, List.filter_nil, List.length_nil, List.length_cons, List.drop_zero, List.not_mem_nil, List.mem_cons, Bool.true_eq_false, Bool.false_eq_true, ↓reduceIte, Nat.reduceEqDiff, Nat.reduceAdd, List.getElem?_toArray, List.toList_toArray, List.getElem?_cons_zero, List.getElem?_cons_succ, decide_eq_true_eq, Z52, beq_self_eq_true, beq_true, decide_true, decide_false, Bool.not_true, Bool.not_false, true_and, and_true, or_false, false_or, Bool.and_eq_true, Bool.and_true, Bool.true_and, reduceCtorEq, not_false_eq_true, h3, h8, h9, h10, ho, U28, U3, U9, U4, len_row, ia_row r k c1, ldv, cells_val, T34, zeroX, fa34_0, fa34_1, fa34_2, P3, P9, Z4b, B29, index_agg T29 rfl T3, ItoaN_k, hkk, hnn, hss, WS_k, WB_k, b1, b2, b3, b4, b5, b6, b7, e32, e32', str_size, str_list, pr_obj, pr_tk, obj83, call83, obj87, tk87, call87, obj88, tk88, call88, Int.ofNat_lt, c1, hw, w1, w2, w3]
        rw [WC_loop]
        simp -implicitDefEqProofs only [Z2i, Z2n, Z2g, Z2h, Z2k, Z2l, Z2m, Z2j, Z2f, Z2d, Z2e, Z3i, Z3h, Z3g, Nat.zero_mul, Nat.reduceMul, Z4k, Z13, Z14, List.length_map, Z35, Z34, Z37, Z33, Z36, Z31, Z38, Z32, Z30, Z2z, Tk.nm.injEq, Tk.cell.injEq, false_and, and_false, Z2o, Z4j, Nat.le_add_right, Z5h, Z5i, Z6z, Nat.le_refl, Z5v, Z5u, Z2s, ↓Zx, ↓Zs, ↓Zt, ↓Zw, ↓Zy, ↓Zu, ↓Zv, ↓Zz, ↓Z10, ↓Zl, ↓Z2, ↓Zo, ↓Z3, ↓Zr, ↓Zg, ↓Zc, ↓Zb, ↓Ze, ↓Zd, ↓Zp, ↓Z9, ↓Za, ↓Zm, ↓Zi, ↓Z5, ↓Z6, ↓Zf, ↓Z1, ↓Z7, ↓Z8, ↓Z0, ↓Z4, ↓Zq, ↓Zh, ↓Zk, ↓Zj, ↓Zn, ↓Z64, ↓Z66, ↓Z63, ↓Z65, ↓Z7f, ↓Z7g, ↓Z7e, ↓Z2x, ↓Z2y, ↓Z2w, ↓Z1e, ↓Z1f, ↓Z1d, Z4c, Z1a, ↓Z8a, ↓Z8b, ↓Z89, ↓Z78, ↓Z79, ↓Z77, ↓Z3e, ↓Z3c, ↓Z3d, Z5c, Z5b, Z5g, Z5e, Z5f, Z5d, ↓Z3y, ↓Z3z, ↓Z3x, Z3u, Z3w, Z3v, ↓Z7b, ↓Z7a, ↓Z7d, ↓Z7c, ↓Z1z, ↓Z1y, ↓Z21, ↓Z20, ↓Z6o, ↓Z6p, ↓Z4s, ↓Z4t, Z2p, ↓Z3o, ↓Z3p, Z3s, Z3n, Z3q, Z3r, Z5p, Z5q, Z5o, Z5n, Z5r, Z1n, Z1m, Z1l, Z1k, Z1j, Z1p, Z1g, Z1t, Z1o, Z1r, Z1s, Z1q, Z1h, Z1i, Z88, Z87, Z4d, Z4e, Z4f, Z5y, Z4b, Z4a, Z49, Z48, Z16, Z17, Z15, Z6a, Z6b, Z69, ↓Z68, ↓Z67, Z2q, Z22, Z23, Z25, Z24, Z60, Z5z, Z55, Z56, ↓Z1b, ↓Z1c, Z81, Z80, Z7x, Z84, Z7y, Z83, Z7z, Z82, Z86, Z85, Z5a, Z59, Z7w, Z7t, Z7v, Z7u, Z4r, Z4q, Z4p, Z62, Z61, Z6v, Z6y, Z6w, Z6x, Z40, Z41, Z74, Z72, Z73, Z6u, Z6t, Z2v, Z2u, Z5x, Z5w, Z2r, Z71, Z70, Z6d, Z6c, Z6k, Z6j, Z6l, Z6m, Z6i, Z6h, Z6g, Z6n, Z6f, Z6e, Z58, Z57, Z7p, Z7o, Z7q, Z7r, Z7n, Z7m, Z7l, Z7s, Z7k, Z7j, Z7h, Z7i, Z54, Z53, Z5m, Z11, Z4y, Z4z, Z4x, Z51, Z4w, Z4v, Z4u, Z50, Z12, Z75, Z76, Z43, Z42, Z4o, Z4n, Z4l, Z4m, Z19, Z18, Z29, Z2b, Z2a, Z28, Z2c, Z27, Z26, Z5t, Z3t, Z6r, ↓Z6s, ↓Z6q, Z2t, Z47, Z44, Z45, Z46, Z3m, Z3k, Z3l, Z3j, Z1v, Z1u, Z1w, Z1x, List.any_cons, List.any_nil, Bool.or_true, Bool.true_or, Bool.or_false, Bool.false_or, Bool.and_false, Bool.false_and, Nat.reduceBEq, Z5k, Z5j, Z5l, Z3f, ↓Z39, ↓Z3b, ↓Z3a, Z4i, Z4h, Z4g, Z5s, Nat.reduceLeDiff, Int.reduceLT, Int.reduceLE, Int.reduceAdd, Int.reduceToNat, Int.reduceNeg, Int.cast_ofNat_Int, Nat.reduceLT, List.drop_succ_cons, List.take_succ_cons, List.singleton_append, Nat.zero_add, List.set_cons_zero, List.set_cons_succ, List.drop_nil, List.take_nil, Option.map_some, Option.map_none, Option.getD_some, Option.getD_none, Option.bind_some, List.cons_append, List.nil_append, List.append_nil, List.map_cons, List.map_nil, List.range_zero, List.take_zero, List.flatten_nil, List.filter_nil, List.length_nil, List.length_cons, List.drop_zero, List.not_mem_nil, List.mem_cons, Bool.true_eq_false, Bool.false_eq_true, ↓reduceIte, Nat.reduceEqDiff, Nat.reduceAdd, List.getElem?_toArray, List.toList_toArray, List.getElem?_cons_zero, List.getElem?_cons_succ, decide_eq_true_eq, Z52, beq_self_eq_true, beq_true, decide_true, decide_false, Bool.not_true, Bool.not_false, true_and, and_true, or_false, false_or, Bool.and_eq_true, Bool.and_true, Bool.true_and, reduceCtorEq, not_false_eq_true, h3, h8, h9, h10, ho, U28, U3, U9, U4, len_row, ia_row r k c1, ldv, cells_val, T34, zeroX, fa34_0, fa34_1, fa34_2, P3, P9, Z4b, B29, index_agg T29 rfl T3, ItoaN_k, hkk, hnn, hss, WS_k, WB_k, b1, b2, b3, b4, b5, b6, b7, e32, e32', str_size, str_list, pr_obj, pr_tk, obj83, call83, obj87, tk87, call87, obj88, tk88, call88, Int.ofNat_lt, c1, hw, w1, w2, w3]
        rw [WC_loop]
        simp -implicitDefEqProofs only [Z2i, Z2n, Z2g, Z2h, Z2k, Z2l, Z2m, Z2j, Z2f, Z2d, Z2e, Z3i, Z3h, Z3g, Nat.zero_mul, Nat.reduceMul, Z4k, Z13, Z14, List.length_map, Z35, Z34, Z37, Z33, Z36, Z31, Z38, Z32, Z30, Z2z, Tk.nm.injEq, Tk.cell.injEq, false_and, and_false, Z2o, Z4j, Nat.le_add_right, Z5h, Z5i, Z6z, Nat.le_refl, Z5v, Z5u, Z2s, ↓Zx, ↓Zs, ↓Zt, ↓Zw, ↓Zy, ↓Zu, ↓Zv, ↓Zz, ↓Z10, ↓Zl, ↓Z2, ↓Zo, ↓Z3, ↓Zr, ↓Zg, ↓Zc, ↓Zb, ↓Ze, ↓Zd, ↓Zp, ↓Z9, ↓Za, ↓Zm, ↓Zi, ↓Z5, ↓Z6, ↓Zf, ↓Z1, ↓Z7, ↓Z8, ↓Z0, ↓Z4, ↓Zq, ↓Zh, ↓Zk, ↓Zj, ↓Zn, ↓Z64, ↓Z66, ↓Z63, ↓Z65, ↓Z7f, ↓Z7g, ↓Z7e, ↓Z2x, ↓Z2y, ↓Z2w, ↓Z1e, ↓Z1f, ↓Z1d, Z4c, Z1a, ↓Z8a, ↓Z8b, ↓Z89, ↓Z78, ↓Z79, ↓Z77, ↓Z3e, ↓Z3c, ↓Z3d, Z5c, Z5b, Z5g, Z5e, Z5f, Z5d, ↓Z3y, ↓Z3z, ↓Z3x, Z3u, Z3w, Z3v, ↓Z7b, ↓Z7a, ↓Z7d, ↓Z7c, ↓Z1z, ↓Z1y, ↓Z21, ↓Z20, ↓Z6o, ↓Z6p, ↓Z4s, ↓Z4t, Z2p, ↓Z3o, ↓Z3p, Z3s, Z3n, Z3q, Z3r, Z5p, Z5q, Z5o, Z5n, Z5r, Z1n, Z1m, Z1l, Z1k, Z1j, Z1p, Z1g, Z1t, Z1o, Z1r, Z1s, Z1q, Z1h, Z1i, Z88, Z87, Z4d, Z4e, Z4f, Z5y, Z4b, Z4a, Z49, Z48, Z16, Z17, Z15, Z6a, Z6b, Z69, ↓Z68, ↓Z67, Z2q, Z22, Z23, Z25, Z24, Z60, Z5z, Z55, Z56, ↓Z1b, ↓Z1c, Z81, Z80, Z7x, Z84, Z7y, Z83, Z7z, Z82, Z86, Z85, Z5a, Z59, Z7w, Z7t, Z7v, Z7u, Z4r, Z4q, Z4p, Z62, Z61, Z6v, Z6y, Z6w, Z6x, Z40, Z41, Z74, Z72, Z73, Z6u, Z6t, Z2v, Z2u, Z5x, Z5w, Z2r, Z71, Z70, Z6d, Z6c, Z6k, Z6j, Z6l, Z6m, Z6i, Z6h, Z6g, Z6n, Z6f, Z6e, Z58, Z57, Z7p, Z7o, Z7q, Z7r, Z7n, Z7m, Z7l, Z7s, Z7k, Z7j, Z7h, Z7i, Z54, Z53, Z5m, Z11, Z4y, Z4z, Z4x, Z51, Z4w, Z4v, Z4u, Z50, Z12, Z75, Z76, Z43, Z42, Z4o, Z4n, Z4l, Z4m, Z19, Z18, Z29, Z2b, Z2a, Z28, Z2c, Z27, Z26, Z5t, Z3t, Z6r, ↓Z6s, ↓Z6q, Z2t, Z47, Z44, Z45, Z46, Z3m, Z3k, Z3l, Z3j, Z1v, Z1u, Z1w, Z1x, List.any_cons, List.any_nil, Bool.or_true, Bool.true_or, Bool.or_false, Bool.false_or, Bool.and_false, Bool.false_and, Nat.reduceBEq, Z5k, Z5j, Z5l, Z3f, ↓Z39, ↓Z3b, ↓Z3a, Z4i, Z4h, Z4g, Z5s, Nat.reduceLeDiff, Int.reduceLT, Int.reduceLE, Int.reduceAdd, Int.reduceToNat, Int.reduceNeg, Int.cast_ofNat_Int, Nat.reduceLT, List.drop_succ_cons, List.take_succ_cons, List.singleton_append, Nat.zero_add, List.set_cons_zero, List.set_cons_succ, List.drop_nil, List.take_nil, Option.map_some, Option.map_none, Option.getD_some, Option.getD_none, Option.bind_some, List.cons_append, List.nil_append, List.append_nil, List.map_cons, List.map_nil, List.range_zero, List.take_zero, List.flatten_nil, List.filter_nil, List.length_nil, List.length_cons, List.drop_zero, List.not_mem_nil, List.mem_cons, Bool.true_eq_false, Bool.false_eq_true, ↓reduceIte, Nat.reduceEqDiff, Nat.reduceAdd, List.getElem?_toArray, List.toList_toArray, List.getElem?_cons_zero, List.getElem?_cons_succ, decide_eq_true_eq, Z52, beq_self_eq_true, beq_true, decide_true, decide_false, Bool.not_true, Bool.not_false, true_and, and_true, or_false, false_or, Bool.and_eq_true, Bool.and_true, Bool.true_and, reduceCtorEq, not_false_eq_true, h3, h8, h9, h10, ho, U28, U3, U9, U4, len_row, ia_row r k c1, ldv, cells_val, T34, zeroX, fa34_0, fa34_1, fa34_2, P3, P9, Z4b, B29, index_agg T29 rfl T3, ItoaN_k, hkk, hnn, hss, WS_k, WB_k, b1, b2, b3, b4, b5, b6, b7, e32, e32', str_size, str_list, pr_obj, pr_tk, obj83, call83, obj87, tk87, call87, obj88, tk88, call88, Int.ofNat_lt, c1, hw, w1, w2, w3]
        rw [WC_loop]
        simp -implicitDefEqProofs only [Z2i, Z2n, Z2g, Z2h, Z2k, Z2l, Z2m, Z2j, Z2f, Z2d, Z2e, Z3i, Z3h, Z3g, Nat.zero_mul, Nat.reduceMul, Z4k, Z13, Z14, List.length_map, Z35, Z34, Z37, Z33, Z36, Z31, Z38, Z32, Z30, Z2z, Tk.nm.injEq, Tk.cell.injEq, false_and, and_false, Z2o, Z4j, Nat.le_add_right, Z5h, Z5i, Z6z, Nat.le_refl, Z5v, Z5u, Z2s, ↓Zx, ↓Zs, ↓Zt, ↓Zw, ↓Zy, ↓Zu, ↓Zv, ↓Zz, ↓Z10, ↓Zl, ↓Z2, ↓Zo, ↓Z3, ↓Zr, ↓Zg, ↓Zc, ↓Zb, ↓Ze, ↓Zd, ↓Zp, ↓Z9, ↓Za, ↓Zm, ↓Zi, ↓Z5, ↓Z6, ↓Zf, ↓Z1, ↓Z7, ↓Z8, ↓Z0, ↓Z4, ↓Zq, ↓Zh, ↓Zk, ↓Zj, ↓Zn, ↓Z64, ↓Z66, ↓Z63, ↓Z65, ↓Z7f, ↓Z7g, ↓Z7e, ↓Z2x, ↓Z2y, ↓Z2w, ↓Z1e, ↓Z1f, ↓Z1d, Z4c, Z1a, ↓Z8a, ↓Z8b, ↓Z89, ↓Z78, ↓Z79, ↓Z77, ↓Z3e, ↓Z3c, ↓Z3d, Z5c, Z5b, Z5g, Z5e, Z5f, Z5d, ↓Z3y, ↓Z3z, ↓Z3x, Z3u, Z3w, Z3v, ↓Z7b, ↓Z7a, ↓Z7d, ↓Z7c, ↓Z1z, ↓Z1y, ↓Z21, ↓Z20, ↓Z6o, ↓Z6p, ↓Z4s, ↓Z4t, Z2p, ↓Z3o, ↓Z3p, Z3s, Z3n, Z3q, Z3r, Z5p, Z5q, Z5o, Z5n, Z5r, Z1n, Z1m, Z1l, Z1k, Z1j, Z1p, Z1g, Z1t, Z1o, Z1r, Z1s, Z1q, Z1h, Z1i, Z88, Z87, Z4d, Z4e, Z4f, Z5y, Z4b, Z4a, Z49, Z48, Z16, Z17, Z15, Z6a, Z6b, Z69, ↓Z68, ↓Z67, Z2q, Z22, Z23, Z25, Z24, Z60, Z5z, Z55, Z56, ↓Z1b, ↓Z1c, Z81, Z80, Z7x, Z84, Z7y, Z83, Z7z, Z82, Z86, Z85, Z5a, Z59, Z7w, Z7t, Z7v, Z7u, Z4r, Z4q, Z4p, Z62, Z61, Z6v, Z6y, Z6w, Z6x, Z40, Z41, Z74, Z72, Z73, Z6u, Z6t, Z2v, Z2u, Z5x, Z5w, Z2r, Z71, Z70, Z6d, Z6c, Z6k, Z6j, Z6l, Z6m, Z6i, Z6h, Z6g, Z6n, Z6f, Z6e, Z58, Z57, Z7p, Z7o, Z7q, Z7r, Z7n, Z7m, Z7l, Z7s, Z7k, Z7j, Z7h, Z7i, Z54, Z53, Z5m, Z11, Z4y, Z4z, Z4x, Z51, Z4w, Z4v, Z4u, Z50, Z12, Z75, Z76, Z43, Z42, Z4o, Z4n, Z4l, Z4m, Z19, Z18, Z29, Z2b, Z2a, Z28, Z2c, Z27, Z26, Z5t, Z3t, Z6r, ↓Z6s, ↓Z6q, Z2t, Z47, Z44, Z45, Z46, Z3m, Z3k, Z3l, Z3j, Z1v, Z1u, Z1w, Z1x, List.any_cons, List.any_nil, Bool.or_true, Bool.true_or, Bool.or_false, Bool.false_or, Bool.and_false, Bool.false_and, Nat.reduceBEq, Z5k, Z5j, Z5l, Z3f, ↓Z39, ↓Z3b, ↓Z3a, Z4i, Z4h, Z4g, Z5s, Nat.reduceLeDiff, Int.reduceLT, Int.reduceLE, Int.reduceAdd, Int.reduceToNat, Int.reduceNeg, Int.cast_ofNat_Int, Nat.reduceLT, List.drop_succ_cons, List.take_succ_cons, List.singleton_append, Nat.zero_add, List.set_cons_zero, List.set_cons_succ, List.drop_nil, List.take_nil, Option.map_some, Option.map_none, Option.getD_some, Option.getD_none, Option.bind_some, List.cons_append, List.nil_append, List.append_nil, List.map_cons, List.map_nil, List.range_zero, List.take_zero, List.flatten_nil, List.filter_nil, List.length_nil, List.length_cons, List.drop_zero, List.not_mem_nil, List.mem_cons, Bool.true_eq_false, Bool.false_eq_true, ↓reduceIte, Nat.reduceEqDiff, Nat.reduceAdd, List.getElem?_toArray, List.toList_toArray, List.getElem?_cons_zero, List.getElem?_cons_succ, decide_eq_true_eq, Z52, beq_self_eq_true, beq_true, decide_true, decide_false, Bool.not_true, Bool.not_false, true_and, and_true, or_false, false_or, Bool.and_eq_true, Bool.and_true, Bool.true_and, reduceCtorEq, not_false_eq_true, h3, h8, h9, h10, ho, U28, U3, U9, U4, len_row, ia_row r k c1, ldv, cells_val, T34, zeroX, fa34_0, fa34_1, fa34_2, P3, P9, Z4b, B29, index_agg T29 rfl T3, ItoaN_k, hkk, hnn, hss, WS_k, WB_k, b1, b2, b3, b4, b5, b6, b7, e32, e32', str_size, str_list, pr_obj, pr_tk, obj83, call83, obj87, tk87, call87, obj88, tk88, call88, Int.ofNat_lt, c1, hw, w1, w2, w3]
        rw [WC_loop]
        simp -implicitDefEqProofs only [Z2i, Z2n, Z2g, Z2h, Z2k, Z2l, Z2m, Z2j, Z2f, Z2d, Z2e, Z3i, Z3h, Z3g, Nat.zero_mul, Nat.reduceMul, Z4k, Z13, Z14, List.length_map, Z35, Z34, Z37, Z33, Z36, Z31, Z38, Z32, Z30, Z2z, Tk.nm.injEq, Tk.cell.injEq, false_and, and_false, Z2o, Z4j, Nat.le_add_right, Z5h, Z5i, Z6z, Nat.le_refl, Z5v, Z5u, Z2s, ↓Zx, ↓Zs, ↓Zt, ↓Zw, ↓Zy, ↓Zu, ↓Zv, ↓Zz, ↓Z10, ↓Zl, ↓Z2, ↓Zo, ↓Z3, ↓Zr, ↓Zg, ↓Zc, ↓Zb, ↓Ze, ↓Zd, ↓Zp, ↓Z9, ↓Za, ↓Zm, ↓Zi, ↓Z5, ↓Z6, ↓Zf, ↓Z1, ↓Z7, ↓Z8, ↓Z0, ↓Z4, ↓Zq, ↓Zh, ↓Zk, ↓Zj, ↓Zn, ↓Z64, ↓Z66, ↓Z63, ↓Z65, ↓Z7f, ↓Z7g, ↓Z7e, ↓Z2x, ↓Z2y, ↓Z2w, ↓Z1e, ↓Z1f, ↓Z1d, Z4c, Z1a, ↓Z8a, ↓Z8b, ↓Z89, ↓Z78, ↓Z79, ↓Z77, ↓Z3e, ↓Z3c, ↓Z3d, Z5c, Z5b, Z5g, Z5e, Z5f, Z5d, ↓Z3y, ↓Z3z, ↓Z3x, Z3u, Z3w, Z3v, ↓Z7b, ↓Z7a, ↓Z7d, ↓Z7c, ↓Z1z, ↓Z1y, ↓Z21, ↓Z20, ↓Z6o, ↓Z6p, ↓Z4s, ↓Z4t, Z2p, ↓Z3o, ↓Z3p, Z3s, Z3n, Z3q, Z3r, Z5p, Z5q, Z5o, Z5n, Z5r, Z1n, Z1m, Z1l, Z1k, Z1j, Z1p, Z1g, Z1t, Z1o, Z1r, Z1s, Z1q, Z1h, Z1i, Z88, Z87, Z4d, Z4e, Z4f, Z5y, Z4b, Z4a, Z49, Z48, Z16, Z17, Z15, Z6a, Z6b, Z69, ↓Z68, ↓Z67, Z2q, Z22, Z23, Z25, Z24, Z60, Z5z, Z55, Z56, ↓Z1b, ↓Z1c, Z81, Z80, Z7x, Z84, Z7y, Z83, Z7z, Z82, Z86, Z85, Z5a, Z59, Z7w, Z7t, Z7v, Z7u, Z4r, Z4q, Z4p, Z62, Z61, Z6v, Z6y, Z6w, Z6x, Z40, Z41, Z74, Z72, Z73, Z6u, Z6t, Z2v, Z2u, Z5x, Z5w, Z2r, Z71, Z70, Z6d, Z6c, Z6k, Z6j, Z6l, Z6m, Z6i, Z6h, Z6g, Z6n, Z6f, Z6e, Z58, Z57, Z7p, Z7o, Z7q, Z7r, Z7n, Z7m, Z7l, Z7s, Z7k, Z7j, Z7h, Z7i, Z54, Z53, Z5m, Z11, Z4y, Z4z, Z4x, Z51, Z4w, Z4v, Z4u, Z50, Z12, Z75, Z76, Z43, Z42, Z4o, Z4n, Z4l, Z4m, Z19, Z18, Z29, Z2b, Z2a, Z28, Z2c, Z27, Z26, Z5t, Z3t, Z6r, ↓Z6s, ↓Z6q, Z2t, Z47, Z44, Z45, Z46, Z3m, Z3k, Z3l, Z3j, Z1v, Z1u, Z1w, Z1x, List.any_cons, List.any_nil, Bool.or_true, Bool.true_or, Bool.or_false, Bool.false_or, Bool.and_false, Bool.false_and, Nat.reduceBEq, Z5k, Z5j, Z5l, Z3f, ↓Z39, ↓Z3b, ↓Z3a, Z4i, Z4h, Z4g, Z5s, Nat.reduceLeDiff, Int.reduceLT, Int.reduceLE, Int.reduceAdd, Int.reduceToNat, Int.reduceNeg, Int.cast_ofNat_Int, Nat.reduceLT, List.drop_succ_cons, List.take_succ_cons, List.singleton_append, Nat.zero_add, List.set_cons_zero, List.set_cons_succ, List.drop_nil, List.take_nil, Option.map_some, Option.map_none, Option.getD_some, Option.getD_none, Option.bind_some, List.cons_append, List.nil_append, List.append_nil, List.map_cons, List.map_nil, List.range_zero, List.take_zero, List.flatten_nil, List.filter_nil, List.length_nil, List.length_cons, List.drop_zero, List.not_mem_nil, List.mem_cons, Bool.true_eq_false, Bool.false_eq_true, ↓reduceIte, Nat.reduceEqDiff, Nat.reduceAdd, List.getElem?_toArray, List.toList_toArray, List.getElem?_cons_zero, List.getElem?_cons_succ, decide_eq_true_eq, Z52, beq_self_eq_true, beq_true, decide_true, decide_false, Bool.not_true, Bool.not_false, true_and, and_true, or_false, false_or, Bool.and_eq_true, Bool.and_true, Bool.true_and, reduceCtorEq, not_false_eq_true, h3, h8, h9, h10, ho, U28, U3, U9, U4, len_row, ia_row r k c1, ldv, cells_val, T34, zeroX, fa34_0, fa34_1, fa34_2, P3, P9, Z4b, B29, index_agg T29 rfl T3, ItoaN_k, hkk, hnn, hss, WS_k, WB_k, b1, b2, b3, b4, b5, b6, b7, e32, e32', str_size, str_list, pr_obj, pr_tk, obj83, call83, obj87, tk87, call87, obj88, tk88, call88, Int.ofNat_lt, c1, hw, w1, w2, w3]
        refine ⟨_, ?_, k + 1, _, _, by omega, rfl, rfl, rfl, .inr ?_⟩
        · omega
        · rw [hsn, piece]
          simp only [List.append_assoc, V.t]
    · have hk : k = r.length := by omega
      subst hk
      rw [List.take_length] at hb
      rcases hb with ⟨hz, rfl⟩ | rfl
      · have hnil : r = [] := List.eq_nil_of_length_eq_zero hz
        subst hnil
        simp -implicitDefEqProofs only [Z2i, Z2n, Z2g, Z2h, Z2k, Z2l, Z2m, Z2j, Z2f, Z2d, Z2e, Z3i, Z3h, Z3g, Nat.zero_mul, Nat.reduceMul, Z4k, Z13, Z14, List.length_map, Z35, Z34, Z37, Z33, Z36, Z31, Z38, Z32, Z30, Z2z, Tk.nm.injEq, Tk.cell.injEq, false_and, and_false, Z2o, Z4j, Nat.le_add_right, Z5h, Z5i, Z6z, Nat.le_refl, Z5v, Z5u, Z2s, ↓Zx, ↓Zs, ↓Zt, ↓Zw, ↓Zy, ↓Zu, ↓Zv, ↓Zz, ↓Z10, ↓Zl, ↓Z2, ↓Zo, ↓Z3, ↓Zr, ↓Zg, ↓Zc, ↓Zb, ↓Ze, ↓Zd, ↓Zp, ↓Z9, ↓Za, ↓Zm, ↓Zi, ↓Z5, ↓Z6, ↓Zf, ↓Z1, ↓Z7, ↓Z8, ↓Z0, ↓Z4, ↓Zq, ↓Zh, ↓Zk, ↓Zj, ↓Zn, ↓Z64, ↓Z66, ↓Z63, ↓Z65, ↓Z7f, ↓Z7g, ↓Z7e, ↓Z2x, ↓Z2y, ↓Z2w, ↓Z1e, ↓Z1f, ↓Z1d, Z4c, Z1a, ↓Z8a, ↓Z8b, ↓Z89, ↓Z78, ↓Z79, ↓Z77, ↓Z3e, ↓Z3c, ↓Z3d, Z5c, Z5b, Z5g, Z5e, Z5f, Z5d, ↓Z3y, ↓Z3z, ↓Z3x, Z3u, Z3w, Z3v, ↓Z7b, ↓Z7a, ↓Z7d, ↓Z7c, ↓Z1z, ↓Z1y, ↓Z21, ↓Z20, ↓Z6o, ↓Z6p, ↓Z4s, ↓Z4t, Z2p, ↓Z3o, ↓Z3p, Z3s, Z3n, Z3q, Z3r, Z5p, Z5q, Z5o, Z5n, Z5r, Z1n, Z1m, Z1l, Z1k, Z1j, Z1p, Z1g, Z1t, Z1o, Z1r, Z1s, Z1q, Z1h, Z1i, Z88, Z87, Z4d, Z4e, Z4f, Z5y, Z4b, Z4a, Z49, Z48, Z16, Z17, Z15, Z6a, Z6b, Z69, ↓Z68, ↓Z67, Z2q, Z22, Z23, Z25, Z24, Z60, Z5z, Z55, Z56, ↓Z1b, ↓Z1c, Z81, Z80, Z7x, Z84, Z7y, Z83, Z7z, Z82, Z86, Z85, Z5a, Z59, Z7w, Z7t, Z7v, Z7u, Z4r, Z4q, Z4p, Z62, Z61, Z6v, Z6y, Z6w, Z6x, Z40, Z41, Z74, Z72, Z73, Z6u, Z6t, Z2v, Z2u, Z5x, Z5w, Z2r, Z71, Z70, Z6d, Z6c, Z6k, Z6j, Z6l, Z6m, Z6i, Z6h, Z6g, Z6n, Z6f, Z6e, Z58, Z57, Z7p, Z7o, Z7q, Z7r, Z7n, Z7m, Z7l, Z7s, Z7k, Z7j, Z7h, Z7i, Z54, Z53, Z5m, Z11, Z4y, Z4z, Z4x, Z51, Z4w, Z4v, Z4u, Z50, Z12, Z75, Z76, Z43, Z42, Z4o, Z4n, Z4l, Z4m, Z19, Z18, Z29, Z2b, Z2a, Z28, Z2c, Z27, Z26, Z5t, Z3t, Z6r, ↓Z6s, ↓Z6q, Z2t, Z47, Z44, Z45, Z46, Z3m, Z3k, Z3l, Z3j, Z1v, Z1u, Z1w, Z1x, List.any_cons, List.any_nil, Bool.or_true, Bool.true_or, Bool.or_false, Bool.false_or, Bool.and_false, Bool.false_and, Nat.reduceBEq, Z5k, Z5j, Z5l, Z3f, ↓Z39, ↓Z3b, ↓Z3a, Z4i, Z4h, Z4g, Z5s, Nat.reduceLeDiff, Int.reduceLT, Int.reduceLE, Int.reduceAdd, Int.reduceToNat, Int.reduceNeg, Int.cast_ofNat_Int, Nat.reduceLT, List.drop_succ_cons, List.take_succ_cons, List.singleton_append, Nat.zero_add, List.set_cons_zero, List.set_cons_succ, List.drop_nil, List.take_nil, Option.map_some, Option.map_none, Option.getD_some, Option.getD_none, Option.bind_some, List.cons_append, List.nil_append, List.append_nil, List.map_cons, List.map_nil, List.range_zero, List.take_zero, List.flatten_nil, List.filter_nil, List.length_nil, List.length_cons, List.drop_zero, List.not_mem_nil, List.mem_cons, Bool.true_eq_false, Bool.false_eq_true, ↓reduceIte, Nat.reduceEqDiff, Nat.reduceAdd, List.getElem?_toArray, List.toList_toArray, List.getElem?_cons_zero, List.getElem?_cons_succ, decide_eq_true_eq, Z52, beq_self_eq_true, beq_true, decide_true, decide_false, Bool.not_true, Bool.not_false, true_and, and_true, or_false, false_or, Bool.and_eq_true, Bool.and_true, Bool.true_and, reduceCtorEq, not_false_eq_true, h3, h8, h9, h10, ho, U3, Int.ofNat_lt, c1, pr_obj, pr_tk, obj89, tk89, call89, rv75, Tryd.f75, BS_k0]
        rfl
      · simp -implicitDefEqProofs only [Z2i, Z2n, Z2g, Z2h, Z2k, Z2l, Z2m, Z2j, Z2f, Z2d, Z2e, Z3i, Z3h, Z3g, Nat.zero_mul, Nat.reduceMul, Z4k, Z13, Z14, List.length_map, Z35, Z34, Z37, Z33, Z36, Z31, Z38, Z32, Z30, Z2z, Tk.nm.injEq, Tk.cell.injEq, false_and, and_false, Z2o, Z4j, Nat.le_add_right, Z5h, Z5i, Z6z, Nat.le_refl, Z5v, Z5u, Z2s, ↓Zx, ↓Zs, ↓Zt, ↓Zw, ↓Zy, ↓Zu, ↓Zv, ↓Zz, ↓Z10, ↓Zl, ↓Z2, ↓Zo, ↓Z3, ↓Zr, ↓Zg, ↓Zc, ↓Zb, ↓Ze, ↓Zd, ↓Zp, ↓Z9, ↓Za, ↓Zm, ↓Zi, ↓Z5, ↓Z6, ↓Zf, ↓Z1, ↓Z7, ↓Z8, ↓Z0, ↓Z4, ↓Zq, ↓Zh, ↓Zk, ↓Zj, ↓Zn, ↓Z64, ↓Z66, ↓Z63, ↓Z65, ↓Z7f, ↓Z7g, ↓Z7e, ↓Z2x, ↓Z2y, ↓Z2w, ↓Z1e, ↓Z1f, ↓Z1d, Z4c, Z1a, ↓Z8a, ↓Z8b, ↓Z89, ↓Z78, ↓Z79, ↓Z77, ↓Z3e, ↓Z3c, ↓Z3d, Z5c, Z5b, Z5g, Z5e, Z5f, Z5d, ↓Z3y, ↓Z3z, ↓Z3x, Z3u, Z3w, Z3v, ↓Z7b, ↓Z7a, ↓Z7d, ↓Z7c, ↓Z1z, ↓Z1y, ↓Z21, ↓Z20, ↓Z6o, ↓Z6p, ↓Z4s, ↓Z4t, Z2p, ↓Z3o, ↓Z3p, Z3s, Z3n, Z3q, Z3r, Z5p, Z5q, Z5o, Z5n, Z5r, Z1n, Z1m, Z1l, Z1k, Z1j, Z1p, Z1g, Z1t, Z1o, Z1r, Z1s, Z1q, Z1h, Z1i, Z88, Z87, Z4d, Z4e, Z4f, Z5y, Z4b, Z4a, Z49, Z48, Z16, Z17, Z15, Z6a, Z6b, Z69, ↓Z68, ↓Z67, Z2q, Z22, Z23, Z25, Z24, Z60, Z5z, Z55, Z56, ↓Z1b, ↓Z1c, Z81, Z80, Z7x, Z84, Z7y, Z83, Z7z, Z82, Z86, Z85, Z5a, Z59, Z7w, Z7t, Z7v, Z7u, Z4r, Z4q, Z4p, Z62, Z61, Z6v, Z6y, Z6w, Z6x, Z40, Z41, Z74, Z72, Z73, Z6u, Z6t, Z2v, Z2u, Z5x, Z5w, Z2r, Z71, Z70, Z6d, Z6c, Z6k, Z6j, Z6l, Z6m, Z6i, Z6h, Z6g, Z6n, Z6f, Z6e, Z58, Z57, Z7p, Z7o, Z7q, Z7r, Z7n, Z7m, Z7l, Z7s, Z7k, Z7j, Z7h, Z7i, Z54, Z53, Z5m, Z11, Z4y, Z4z, Z4x, Z51, Z4w, Z4v, Z4u, Z50, Z12, Z75, Z76, Z43, Z42, Z4o, Z4n, Z4l, Z4m, Z19, Z18, Z29, Z2b, Z2a, Z28, Z2c, Z27, Z26, Z5t, Z3t, Z6r, ↓Z6s, ↓Z6q, Z2t, Z47, Z44, Z45, Z46, Z3m, Z3k, Z3l, Z3j, Z1v, Z1u, Z1w, Z1x, List.any_cons, List.any_nil, Bool.or_true, Bool.true_or, Bool.or_false, Bool.false_or, Bool.and_false, Bool.false_and, Nat.reduceBEq, Z5k, Z5j, Z5l, Z3f, ↓Z39, ↓Z3b, ↓Z3a, Z4i, Z4h, Z4g, Z5s, Nat.reduceLeDiff, Int.reduceLT, Int.reduceLE, Int.reduceAdd, Int.reduceToNat, Int.reduceNeg, Int.cast_ofNat_Int, Nat.reduceLT, List.drop_succ_cons, List.take_succ_cons, List.singleton_append, Nat.zero_add, List.set_cons_zero, List.set_cons_succ, List.drop_nil, List.take_nil, Option.map_some, Option.map_none, Option.getD_some, Option.getD_none, Option.bind_some, List.cons_append, List.nil_append, List.append_nil, List.map_cons, List.map_nil, List.range_zero, List.take_zero, List.flatten_nil, List.filter_nil, List.length_nil, List.length_cons, List.drop_zero, List.not_mem_nil, List.mem_cons, Bool.true_eq_false, Bool.false_eq_true, ↓reduceIte, Nat.reduceEqDiff, Nat.reduceAdd, List.getElem?_toArray, List.toList_toArray, List.getElem?_cons_zero, List.getElem?_cons_succ, decide_eq_true_eq, Z52, beq_self_eq_true, beq_true, decide_true, decide_false, Bool.not_true, Bool.not_false, true_and, and_true, or_false, false_or, Bool.and_eq_true, Bool.and_true, Bool.true_and, reduceCtorEq, not_false_eq_true, h3, h8, h9, h10, ho, U3, Int.ofNat_lt, c1, pr_obj, pr_tk, obj89, tk89, call89, rv75, Tryd.f75, BS_k]
  · refine ⟨0, _, [], by omega, by omega, ?_, ?_, ?_, ?_, ?_, .inl ⟨rfl, rfl⟩⟩
    all_goals simp -implicitDefEqProofs only [Z2i, Z2n, Z2g, Z2h, Z2k, Z2l, Z2m, Z2j, Z2f, Z2d, Z2e, Z3i, Z3h, Z3g, Nat.zero_mul, Nat.reduceMul, Z4k, Z13, Z14, List.length_map, Z35, Z34, Z37, Z33, Z36, Z31, Z38, Z32, Z30, Z2z, Tk.nm.injEq, Tk.cell.injEq, false_and, and_false, Z2o, Z4j, Nat.le_add_right, Z5h, Z5i, Z6z, Nat.le_refl, Z5v, Z5u, Z2s, ↓Zx, ↓Zs, ↓Zt, ↓Zw, ↓Zy, ↓Zu, ↓Zv, ↓Zz, ↓Z10, ↓Zl, ↓Z2, ↓Zo, ↓Z3, ↓Zr, ↓Zg, ↓Zc, ↓Zb, ↓Ze, ↓Zd, ↓Zp, ↓Z9, ↓Za, ↓Zm, ↓Zi, ↓Z5, ↓Z6, ↓Zf, ↓Z1, ↓Z7, ↓Z8, ↓Z0, ↓Z4, ↓Zq, ↓Zh, ↓Zk, ↓Zj, ↓Zn, ↓Z64, ↓Z66, ↓Z63, ↓Z65, ↓Z7f, ↓Z7g, ↓Z7e, ↓Z2x, ↓Z2y, ↓Z2w, ↓Z1e, ↓Z1f, ↓Z1d, Z4c, Z1a, ↓Z8a, ↓Z8b, ↓Z89, ↓Z78, ↓Z79, ↓Z77, ↓Z3e, ↓Z3c, ↓Z3d, Z5c, Z5b, Z5g, Z5e, Z5f, Z5d, ↓Z3y, ↓Z3z, ↓Z3x, Z3u, Z3w, Z3v, ↓Z7b, ↓Z7a, ↓Z7d, ↓Z7c, ↓Z1z, ↓Z1y, ↓Z21, ↓Z20, ↓Z6o, ↓Z6p, ↓Z4s, ↓Z4t, Z2p, ↓Z3o, ↓Z3p, Z3s, Z3n, Z3q, Z3r, Z5p, Z5q, Z5o, Z5n, Z5r, Z1n, Z1m, Z1l, Z1k, Z1j, Z1p, Z1g, Z1t, Z1o, Z1r, Z1s, Z1q, Z1h, Z1i, Z88, Z87, Z4d, Z4e, Z4f, Z5y, Z4b, Z4a, Z49, Z48, Z16, Z17, Z15, Z6a, Z6b, Z69, ↓Z68, ↓Z67, Z2q, Z22, Z23, Z25, Z24, Z60, Z5z, Z55, Z56, ↓Z1b, ↓Z1c, Z81, Z80, Z7x, Z84, Z7y, Z83, Z7z, Z82, Z86, Z85, Z5a, Z59, Z7w, Z7t, Z7v, Z7u, Z4r, Z4q, Z4p, Z62, Z61, Z6v, Z6y, Z6w, Z6x, Z40, Z41, Z74, Z72, Z73, Z6u, Z6t, Z2v, Z2u, Z5x, Z5w, Z2r, Z71, Z70, Z6d, Z6c, Z6k, Z6j, Z6l, Z6m, Z6i, Z6h, Z6g, Z6n, Z6f, Z6e, Z58, Z57, Z7p, Z7o, Z7q, Z7r, Z7n, Z7m, Z7l, Z7s, Z7k, Z7j, Z7h, Z7i, Z54, Z53, Z5m, Z11, Z4y, Z4z, Z4x, Z51, Z4w, Z4v, Z4u, Z50, Z12, Z75, Z76, Z43, Z42, Z4o, Z4n, Z4l, Z4m, Z19, Z18, Z29, Z2b, Z2a, Z28, Z2c, Z27, Z26, Z5t, Z3t, Z6r, ↓Z6s, ↓Z6q, Z2t, Z47, Z44, Z45, Z46, Z3m, Z3k, Z3l, Z3j, Z1v, Z1u, Z1w, Z1x, List.any_cons, List.any_nil, Bool.or_true, Bool.true_or, Bool.or_false, Bool.false_or, Bool.and_false, Bool.false_and, Nat.reduceBEq, Z5k, Z5j, Z5l, Z3f, ↓Z39, ↓Z3b, ↓Z3a, Z4i, Z4h, Z4g, Z5s, Nat.reduceLeDiff, Int.reduceLT, Int.reduceLE, Int.reduceAdd, Int.reduceToNat, Int.reduceNeg, Int.cast_ofNat_Int, Nat.reduceLT, List.drop_succ_cons, List.take_succ_cons, List.singleton_append, Nat.zero_add, List.set_cons_zero, List.set_cons_succ, List.drop_nil, List.take_nil, Option.map_some, Option.map_none, Option.getD_some, Option.getD_none, Option.bind_some, List.cons_append, List.nil_append, List.append_nil, List.map_cons, List.map_nil, List.range_zero, List.take_zero, List.flatten_nil, List.filter_nil, List.length_nil, List.length_cons, List.drop_zero, List.not_mem_nil, List.mem_cons, Bool.true_eq_false, Bool.false_eq_true, ↓reduceIte, Nat.reduceEqDiff, Nat.reduceAdd, List.getElem?_toArray, List.toList_toArray, List.getElem?_cons_zero, List.getElem?_cons_succ, decide_eq_true_eq, Z52, beq_self_eq_true, beq_true, decide_true, decide_false, Bool.not_true, Bool.not_false, true_and, and_true, or_false, false_or, Bool.and_eq_true, Bool.and_true, Bool.true_and, reduceCtorEq, not_false_eq_true] <;> rfl
theorem name_k (r : List V) (K : An → Prop) (hr : ROk r) : CallK Tryd.prog pr 75 [.of (rowC r)] [] K ↔ K ⟨false, [xstr (str (nameF r))], []⟩ := Gives.k (name_call r hr) K
end Go.Proofs.YtiepbejeiijpmaaDoor

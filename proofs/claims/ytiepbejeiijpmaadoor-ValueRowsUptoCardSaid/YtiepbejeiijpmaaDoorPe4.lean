/-
  An abstract machine for Go code over plain data: each operation's answer is the model's. Conditions: none.
-/
import Derived.Test.YtiepbejeiijpmaaDoorPe3
import Derived.Laws.Rows
import Derived.Laws.StructEq
namespace Go.Pe
open Go.RowKit

structure TD.Ok (P : Program) (t : Nat) (d : TD) : Prop where
  und : P.underlying t = some d.und
  info : ∃ i, P.info? t = some i ∧ i.size = d.size ∧ i.bytes = d.bytes ∧ ∃ z, i.zero = some z ∧ z.cells.toList = d.zero ∧ isAggV z = isAggD d.und
  agg : d.agg = isAggD d.und
  one : ∀ u ∈ d.zero, u.oneCell' = true
  len : d.zero.length = d.size
  fields : fieldsOf P d.und = some d.fields

theorem TT.of_ok {P : Program} {t : Nat} {d : TD} (h : TT.of P t = some d) : TD.Ok P t d := by
  unfold TT.of at h
  split at h
  · rename_i u i hu hi
    split at h
    · rename_i z fl hz hfl
      split at h
      · rename_i hc
        simp only [Option.some.injEq] at h
        subst h
        simp only [Bool.and_eq_true, List.all_eq_true, beq_iff_eq] at hc
        exact ⟨hu, ⟨i, hi, rfl, rfl, z, hz, rfl, hc.2⟩, rfl, hc.1.1, by simpa using hc.1.2, hfl⟩
      · cases h
    · cases h
  · cases h

theorem TD.Ok.run_und {P : Program} {t : Nat} {d : TD} (h : TD.Ok P t d) (w : World) : (underlying t).run P w = .ok d.und w := run_underlying h.und w
theorem TD.Ok.run_size {P : Program} {t : Nat} {d : TD} (h : TD.Ok P t d) (w : World) : (sizeOf t).run P w = .ok d.size w := by
  obtain ⟨i, hi, hs, _⟩ := h.info
  simp [sizeOf, typeInfo, hi, hs]
theorem TD.Ok.run_isAgg {P : Program} {t : Nat} {d : TD} (h : TD.Ok P t d) (w : World) : (isAgg t).run P w = .ok d.agg w := by
  unfold isAgg
  rw [Sem.run_bind, h.run_und, Result.andThen_ok, h.agg]
  unfold isAggD
  split <;> simp_all
theorem TD.Ok.run_zero {P : Program} {t : Nat} {d : TD} (h : TD.Ok P t d) (w : World) : ∃ z, (zeroValue t).run P w = .ok z w ∧ z.cells.toList = d.zero := by
  obtain ⟨i, hi, hs, _, z, hz, hz', _⟩ := h.info
  exact ⟨z, by simp [zeroValue, typeInfo, hi, hz], hz'⟩
theorem TD.Ok.run_zero2 {P : Program} {t : Nat} {d : TD} (h : TD.Ok P t d) (w : World) : ∃ z, (zeroValue t).run P w = .ok z w ∧ z.cells.toList = d.zero ∧ isAggV z = d.agg := by
  obtain ⟨i, hi, hs, _, z, hz, hz', hz2⟩ := h.info
  exact ⟨z, by simp [zeroValue, typeInfo, hi, hz], hz', by rw [h.agg, hz2]⟩
theorem TD.Ok.cells {P : Program} {t : Nat} {d : TD} (h : TD.Ok P t d) : P.cellsOf t = d.size := by
  obtain ⟨i, hi, hs, _⟩ := h.info
  simp [Program.cellsOf, hi, hs]

section
variable {P : Program} {M0 : Base} {k : Know} {ow : Own} {done : Nat → Prop} {w0 w : World} {N : Nat} {s : S} {tmps : Array Value}

/-! ### Arithmetic -/
theorem decide_eq_beq (a b : Int) : (a == b) = decide (a = b) := by
  by_cases h : a = b <;> simp [h]
theorem str_eq (a b : ByteArray) : (a.toList == b.toList) = decide (a = b) := by
  rw [ByteArray.toList_eq, ByteArray.toList_eq]
  by_cases h : a = b
  · subst h; simp
  · have : ¬ a.data = b.data := fun e => h (by cases a; cases b; simp_all)
    simp [h, this]

theorem run_equalIn_bool (n : Nat) {t : TypeId} (a b : Bool) (h : (underlying t).run P w = .ok .bool w) : (Op.equalIn (n + 1) t (.bool a) (.bool b)).run P w = .ok (a == b) w := by
  simp [Op.equalIn, h]

theorem binLit_sound {op : BinOp} {t : TypeId} {u v r : Value} (x y : Operand) (h : binLit ((TT.of P t).map (·.und)) op u v = some r) :
    (do eqGuard op t x y u v; binOp op t u v).run P w = .ok r w ∧ r.oneCell' = true := by
  unfold binLit at h
  split at h
  · rename_i k a k' b
    split at h
    · rename_i hk
      subst hk
      unfold binInt at h
      have hg : (eqGuard op t x y (.int k a) (.int k b)).run P w = .ok () w := by
        cases op <;> simp [eqGuard]
      rw [Sem.run_bind, hg, Result.andThen_ok]
      cases op <;> simp only [Option.some.injEq, reduceCtorEq] at h
      case quo => split at h <;> simp only [Option.some.injEq, reduceCtorEq] at h; rename_i hb; subst h; simp [binOp, Op.intDiv, hb, Value.oneCell']
      case rem => split at h <;> simp only [Option.some.injEq, reduceCtorEq] at h; rename_i hb; subst h; simp [binOp, Op.intDiv, hb, Value.oneCell']
      all_goals
        subst h
        simp [binOp, Op.intArith, Op.intBits, Op.intCmp, Value.oneCell', decide_eq_beq, bne]
    · cases h
  · rename_i a b
    unfold binStr at h
    have hg : (eqGuard op t x y (.string a) (.string b)).run P w = .ok () w := by
      cases op <;> simp [eqGuard]
    rw [Sem.run_bind, hg, Result.andThen_ok]
    cases op <;> simp only [Option.some.injEq, reduceCtorEq] at h
    case add =>
      split at h <;> simp only [Option.some.injEq, reduceCtorEq] at h
      rename_i hb
      subst h
      have : ¬ ((a.size + b.size : Nat) : Int) > IntKind.i64.max := by
        unfold LIM at hb
        have : IntKind.i64.max = 9223372036854775807 := by decide
        omega
      simp only [binOp, Op.stringOp, if_neg this]
      exact ⟨rfl, rfl⟩
    all_goals
      subst h
      simp only [binOp, Op.stringOp, str_eq]
      exact ⟨rfl, rfl⟩
  · rename_i a b
    split at h
    · rename_i hb
      cases hT : TT.of P t with
      | none => simp [hT, isBoolD] at hb
      | some d =>
        have hu : d.und = .bool := by
          simp only [hT, Option.map_some] at hb
          unfold isBoolD at hb
          split at hb
          · rename_i e; simpa using e
          · cases hb
        have hund := (TT.of_ok hT).run_und w
        rw [hu] at hund
        unfold binBool at h
        have hg : (eqGuard op t x y (.bool a) (.bool b)).run P w = .ok () w := by
          cases op <;> simp [eqGuard]
        rw [Sem.run_bind, hg, Result.andThen_ok]
        have he : (Op.equal t (.bool a) (.bool b)).run P w = .ok (a == b) w := by
          exact run_equalIn_bool 9999 a b hund
        cases op <;> simp only [Option.some.injEq, reduceCtorEq] at h
        all_goals
          subst h
          simp [binOp, he, Value.oneCell']
    · cases h
  · cases h

theorem fitD_spec {t : TypeId} {u : Value} (h : fitD ((TT.of P t).map (·.und)) u = true) :
    ∃ d, TT.of P t = some d ∧ ((∃ k' k n, d.und = .int k' ∧ u = .int k n) ∨ (∃ s, d.und = .string ∧ u = .string s) ∨ ∃ b, d.und = .bool ∧ u = .bool b) := by
  cases hT : TT.of P t with
  | none => simp [hT, fitD] at h
  | some d =>
    refine ⟨d, rfl, ?_⟩
    simp only [hT, Option.map_some] at h
    unfold fitD at h
    split at h
    · rename_i e; exact .inl ⟨_, _, _, by simpa using e, rfl⟩
    · rename_i e; exact .inr (.inl ⟨_, by simpa using e, rfl⟩)
    · rename_i e; exact .inr (.inr ⟨_, by simpa using e, rfl⟩)
    · cases h
theorem fit_part {t : TypeId} {u : Value} (h : fitD ((TT.of P t).map (·.und)) u = true) (xs : Array Value) (o : Nat) (hx : xs[o]? = some u) : (part t xs o).run P w = .ok u w := by
  obtain ⟨d, hT, h⟩ := fitD_spec h
  have ok := TT.of_ok hT
  have ha : d.agg = false := by
    rw [ok.agg]
    rcases h with ⟨_, _, _, e, _⟩ | ⟨_, e, _⟩ | ⟨_, e, _⟩ <;> rw [e] <;> rfl
  unfold part
  rw [Sem.run_bind, ok.run_isAgg, Result.andThen_ok, ha]
  simp [hx]
theorem fit_eq {t : TypeId} {u v : Value} {b : Bool} (h : fitD ((TT.of P t).map (·.und)) u = true) (he : eqLit u v = some b) (n : Nat) : (Op.equalIn (n + 1) t u v).run P w = .ok b w := by
  obtain ⟨d, hT, h⟩ := fitD_spec h
  have ok := TT.of_ok hT
  rcases h with ⟨k', k, m, e, rfl⟩ | ⟨s, e, rfl⟩ | ⟨b', e, rfl⟩
  · unfold eqLit at he
    split at he
    · rename_i k1 a k2 c e1
      cases e1
      split at he
      · rename_i hk
        subst hk
        simp only [Option.some.injEq] at he
        subst he
        rw [Go.run_equalIn_int (P := P) w n t k k' m c (by rw [ok.und, e]), decide_eq_beq]
      · cases he
    · rename_i e1; cases e1
    · rename_i e1; cases e1
    · cases he
  · unfold eqLit at he
    split at he
    · rename_i e1; cases e1
    · rename_i a c e1
      cases e1
      simp only [Option.some.injEq] at he
      subst he
      rw [Go.run_equalIn_string (P := P) w n t s c (by rw [ok.und, e]), str_eq]
    · rename_i e1; cases e1
    · cases he
  · unfold eqLit at he
    split at he
    · rename_i e1; cases e1
    · rename_i e1; cases e1
    · rename_i a c e1
      cases e1
      simp only [Option.some.injEq] at he
      subst he
      exact Go.run_equalIn_bool' (P := P) w n t b' c (by rw [ok.und, e])
    · cases he
theorem eqFlat_sound {m : Mem} {xs ys : Array Value} (n : Nat) : ∀ (fs : List Field) (o : Nat) (cs ds : List C) (vs us : List Value) (b : Bool), eqFlat (TT.of P) o fs cs ds = some b → xs.toList.drop o = vs → ys.toList.drop o = us → RepL m cs vs → RepL m ds us →
    (Op.eqFields (n + 1) xs ys fs).run P w = .ok b w
  | [], o, cs, ds, vs, us, b, h, _, _, _, _ => by
    have : b = true := by
      cases cs with
      | nil => cases ds with
        | nil => simpa [eqFlat] using h.symm
        | cons d q => simp [eqFlat] at h
      | cons c r => simp [eqFlat] at h
    subst this
    simp [Op.eqFields]
  | f :: fs, o, cs, ds, vs, us, b, h, hv, hu, rv, ru => by
    obtain ⟨u, r, v, q, rfl, rfl⟩ : ∃ u r v q, cs = .lit u :: r ∧ ds = .lit v :: q := by
      cases cs with
      | nil => simp [eqFlat] at h
      | cons c r => cases c with
        | lit u => cases ds with
          | nil => simp [eqFlat] at h
          | cons d q => cases d with
            | lit v => exact ⟨_, _, _, _, rfl, rfl⟩
            | _ => simp [eqFlat] at h
        | _ => simp [eqFlat] at h
    · unfold eqFlat at h
      split at h
      · rename_i hc
        simp only [Bool.and_eq_true, bne_iff_ne, beq_iff_eq] at hc
        obtain ⟨⟨⟨h1, rfl⟩, h3⟩, h4⟩ := hc
        simp only [RepL, Rep] at rv ru
        obtain ⟨u, vr, rfl, ⟨rfl, _⟩, rv⟩ := rv
        obtain ⟨v, ur, rfl, ⟨rfl, _⟩, ru⟩ := ru
        have gx : ∀ (zs : Array Value) (z : Value) (zr : List Value), zs.toList.drop f.offset = z :: zr → zs[f.offset]? = some z ∧ zs.toList.drop (f.offset + 1) = zr := fun zs z zr hz => by
          constructor
          · rw [← Array.getElem?_toList, ← List.head?_drop, hz]; rfl
          · rw [← List.drop_drop, hz]; rfl
        obtain ⟨x1, x2⟩ := gx _ _ _ hv
        obtain ⟨y1, y2⟩ := gx _ _ _ hu
        have p1 := fit_part (w := w) h3 xs f.offset x1
        have p2 := fit_part (w := w) h4 ys f.offset y1
        cases hq : eqLit u v with
        | none => simp [hq] at h
        | some b' =>
          have p3 := fit_eq (w := w) h3 hq n
          rw [Op.eqFields, if_pos h1, Sem.run_bind, p1, Result.andThen_ok, Sem.run_bind, p2, Result.andThen_ok, Sem.run_bind, p3, Result.andThen_ok]
          cases b' with
          | true =>
            rw [hq] at h
            simpa using eqFlat_sound n fs (f.offset + 1) r q vr ur b h x2 y2 rv ru
          | false =>
            rw [hq] at h
            simp only [Option.some.injEq] at h
            subst h
            rfl
      · cases h
theorem binAgg_sound {op : BinOp} {t : TypeId} {c d : Option C} {cx dx : C} {u v : Value} {z : X} {e : Option Tk} (x y : Operand) {m : Mem} (h : binAgg P (TT.of P) t op c d = some (z, e)) (hc : c = some cx) (hd : d = some dx) (ru : Rep m cx u) (rv : Rep m dx v) :
    ∃ b : Bool, z = xbool b ∧ e = none ∧ (do eqGuard op t x y u v; binOp op t u v).run P w = .ok (.bool b) w := by
  subst hc hd
  unfold binAgg at h
  split at h
  · rename_i cs ds e1 e2
    cases e1; cases e2
    simp only [Rep] at ru rv
    obtain ⟨vs, rfl, _, ru⟩ := ru
    obtain ⟨us, rfl, _, rv⟩ := rv
    have key : ∀ b, eqAgg P (TT.of P) t cs ds = some b → P.eqGuardType P.depth t = false ∧ (Op.equalIn 10000 t (.agg vs.toArray) (.agg us.toArray)).run P w = .ok b w := fun b hb => by
      unfold eqAgg at hb
      split at hb
      · rename_i fs _ _ _ _ _ hT
        split at hb
        · rename_i hc
          have ok := TT.of_ok hT
          have hf : P.fieldsOf t = fs := by simp [Program.fieldsOf, ok.und]
          refine ⟨hc.2, ?_⟩
          rw [Go.run_equalIn_struct (P := P) w 9999 t _ _ (by rw [hf]; exact ok.und) hc.1, hf]
          exact eqFlat_sound 9998 fs.toList 0 cs ds vs us b hb rfl rfl ru rv
        · cases hb
      · cases hb
    split at h
    · obtain ⟨b, hb, rfl, rfl⟩ : ∃ b, eqAgg P (TT.of P) t cs ds = some b ∧ xbool b = z ∧ none = e := by
        simp only [outO, Option.map_map, Option.map_eq_some_iff, Function.comp, Prod.mk.injEq] at h
        obtain ⟨b, h1, h2, h3⟩ := h
        exact ⟨b, h1, h2, h3⟩
      obtain ⟨h1, h2⟩ := key b hb
      refine ⟨b, rfl, rfl, ?_⟩
      rw [Sem.run_bind, Go.run_eqGuard_agg (P := P) w .eql t x y _ _ h1, Result.andThen_ok, Go.run_eql_struct, h2]
      rfl
    · obtain ⟨b, hb, rfl, rfl⟩ : ∃ b, eqAgg P (TT.of P) t cs ds = some b ∧ xbool (!b) = z ∧ none = e := by
        simp only [outO, Option.map_map, Option.map_eq_some_iff, Function.comp, Prod.mk.injEq] at h
        obtain ⟨b, h1, h2, h3⟩ := h
        exact ⟨b, h1, h2, h3⟩
      obtain ⟨h1, h2⟩ := key b hb
      refine ⟨!b, rfl, rfl, ?_⟩
      rw [Sem.run_bind, Go.run_eqGuard_agg (P := P) w .neq t x y _ _ h1, Result.andThen_ok, Go.run_neq_struct, h2]
      rfl
    · cases h
  · cases h

theorem unLit_sound {op : UnOp} {u r : Value} (h : unLit op u = some r) : (Op.unary op u).run P w = .ok r w ∧ r.oneCell' = true := by
  unfold unLit at h
  split at h
  · cases op <;> simp only [Option.some.injEq, reduceCtorEq] at h
    subst h
    simp [Op.unary, Op.intArith, Value.oneCell']
  · cases op <;> simp only [Option.some.injEq, reduceCtorEq] at h
    subst h
    simp [Op.unary, Value.oneCell']
  · cases h

/-! ### Reading -/
theorem lit_int {x : X} {n : Int} {v : Value} (h : litInt x = some n) (hx : RepX k ow x v) : v = .int .i64 n := by
  unfold litInt at h
  split at h
  · simp only [Option.some.injEq] at h
    subst h
    simp only [RepX, Rep] at hx
    exact hx.1
  · cases h
theorem lit_bool {x : X} {b : Bool} {v : Value} (h : litBool x = some b) (hx : RepX k ow x v) : v = .bool b := by
  unfold litBool at h
  split at h
  · simp only [Option.some.injEq] at h
    subst h
    simp only [RepX, Rep] at hx
    exact hx.1
  · cases h
theorem as_sl {x : X} {cs : List C} {n : Nat} {v : Value} (h : asSl x = some (cs, n)) (hx : RepX k ow x v) : Rep k.m (.sl cs n) v := by
  unfold asSl at h
  split at h
  · simp only [Option.some.injEq, Prod.mk.injEq] at h
    obtain ⟨rfl, rfl⟩ := h
    simp only [RepX] at hx
    subst hx
    simp only [Rep]
    exact ⟨none, 0, [], rfl, Nat.le_refl _, by simp [RepL], fun h => absurd rfl h⟩
  · simp only [Option.some.injEq, Prod.mk.injEq] at h
    obtain ⟨rfl, rfl⟩ := h
    simp only [RepX] at hx
    exact hx.2.2
  · simp only [Option.some.injEq, Prod.mk.injEq] at h
    obtain ⟨rfl, rfl⟩ := h
    simpa only [RepX] using hx
  · cases h

/-- Cells that are known one by one, loaded as a value of a type. -/
theorem run_loadVar_cells {t : Nat} {d : TD} (hT : TT.of P t = some d) (b o : Nat) (vs : List Value) (hlen : d.size ≤ vs.length)
    (hc : ∀ i u, vs[i]? = some u → w.cell? ⟨b, o + i, none⟩ = some u) (h1 : d.agg = false → 0 < vs.length) :
    (loadVar t ⟨b, o, none⟩).run P w = .ok (if d.agg then .agg (vs.take d.size).toArray else vs.headD undef) w := by
  have ok := TT.of_ok hT
  unfold loadVar
  rw [Sem.run_bind, ok.run_isAgg, Result.andThen_ok]
  cases hagg : d.agg with
  | true =>
    simp only [if_true, Sem.run_bind, ok.run_size, Result.andThen_ok]
    have hl : (loadCells ⟨b, o, none⟩ (vs.take d.size).length).run P w = .ok (vs.take d.size).toArray w :=
      run_loadCells_list (P := P) w ⟨b, o, none⟩ (vs.take d.size) (fun j v hv => by
        rw [Addr.add_lit]
        refine hc j v ?_
        rw [List.getElem?_take] at hv
        split at hv
        · exact hv
        · cases hv)
    rw [List.length_take, Nat.min_eq_left hlen] at hl
    rw [hl]
    rfl
  | false =>
    have := h1 hagg
    cases vs with
    | nil => simp at this
    | cons v r =>
      have h0 := hc 0 v (by simp)
      simp only [Nat.add_zero] at h0
      simp [h0]

theorem pieceC_rep {t : Nat} {d : TD} {cs : List C} {c : C} {vs : List Value} (hT : TT.of P t = some d) (h : pieceC (TT.of P) t cs = some c) (hl : RepL k.m cs vs)
    (h1 : ∀ u ∈ vs, u.oneCell' = true) : d.size ≤ vs.length ∧ (d.agg = false → 0 < vs.length) ∧ Rep k.m c (if d.agg then .agg (vs.take d.size).toArray else vs.headD undef) := by
  unfold pieceC at h
  simp only [hT] at h
  split at h
  · rename_i hs
    have hs' : d.size ≤ vs.length := by rw [hl.length]; exact hs
    refine ⟨hs', ?_⟩
    cases hagg : d.agg with
    | true =>
      simp only [hagg, if_true, Option.some.injEq] at h ⊢
      subst h
      refine ⟨(fun h => (by cases h)), ?_⟩
      simp only [Rep]
      exact ⟨_, rfl, fun u hu => h1 u (List.mem_of_mem_take hu), hl.take _⟩
    | false =>
      simp only [hagg, Bool.false_eq_true, if_false] at h ⊢
      split at h
      · rename_i c' r'
        simp only [Option.some.injEq] at h
        subst h
        simp only [RepL] at hl
        obtain ⟨v, r, rfl, hv, _⟩ := hl
        exact ⟨by simp, by simpa using hv⟩
      · cases h
  · cases h

theorem pieceX_rep {t : Nat} {d : TD} {xs : List X} {x : X} {vs : List Value} (hT : TT.of P t = some d) (h : pieceX (TT.of P) t xs = some x) (hl : RepXs k ow xs vs)
    (h1 : ∀ u ∈ vs, u.oneCell' = true) : d.size ≤ vs.length ∧ (d.agg = false → 0 < vs.length) ∧ RepX k ow x (if d.agg then .agg (vs.take d.size).toArray else vs.headD undef) := by
  unfold pieceX at h
  simp only [hT] at h
  split at h
  · rename_i hs
    have hs' : d.size ≤ vs.length := by rw [hl.length]; exact hs
    refine ⟨hs', ?_⟩
    cases hagg : d.agg with
    | true =>
      simp only [hagg, if_true, Option.some.injEq] at h ⊢
      subst h
      refine ⟨(fun h => (by cases h)), ?_⟩
      simp only [RepX]
      exact ⟨_, rfl, fun u hu => h1 u (List.mem_of_mem_take hu), hl.takeN _⟩
    | false =>
      simp only [hagg, Bool.false_eq_true, if_false] at h ⊢
      split at h
      · rename_i c' r'
        simp only [Option.some.injEq] at h
        subst h
        simp only [RepXs] at hl
        obtain ⟨v, r, rfl, hv, _⟩ := hl
        exact ⟨by simp, by simpa using hv⟩
      · cases h
  · cases h

theorem pieceC_T {T : TT} {t : Nat} {cs : List C} {c : C} (h : pieceC T t cs = some c) : ∃ d, T t = some d := by
  unfold pieceC at h
  split at h
  · cases h
  · exact ⟨_, ‹_›⟩
theorem pieceX_T {T : TT} {t : Nat} {cs : List X} {c : X} (h : pieceX T t cs = some c) : ∃ d, T t = some d := by
  unfold pieceX at h
  split at h
  · cases h
  · exact ⟨_, ‹_›⟩

theorem load_sound {objs : List Ob} (hs : Hp M0 k ow w0 w objs) {t : Nat} {x y : X} {e : Option Tk} {v : Value} (h : loadX (TT.of P) objs t x = some (y, e)) (hx : RepX k ow x v) :
    e = none ∧ ∃ u, (Instr.loadAt t v).run P w = .ok u w ∧ RepX k ow y u := by
  unfold loadX at h
  split at h
  · rename_i r off
    split at h
    · rename_i ty xs hr
      simp only [outO, Option.map_eq_some_iff, Prod.mk.injEq] at h
      obtain ⟨y', h, rfl, rfl⟩ := h
      obtain ⟨b, hb, _, _, _, vs, hh, h1, hl⟩ := hs.obj r _ hr
      simp only [RepX] at hx
      obtain ⟨b', hb', rfl⟩ := hx
      obtain rfl : b' = b := Option.some.inj (hb'.symm.trans hb)
      obtain ⟨d, hT⟩ := pieceX_T h
      obtain ⟨g1, g2, g3⟩ := pieceX_rep hT h (hl.dropN off) (fun u hu => h1 u (List.mem_of_mem_drop hu))
      refine ⟨rfl, _, ?_, g3⟩
      simp only [Instr.loadAt, Instr.sureAddr, Sem.run_bind, Sem.run_pure, Result.andThen_ok]
      refine run_loadVar_cells hT b' off (vs.drop off) g1 (fun i u hu => ?_) g2
      rw [cell_of_row w b' (off + i) vs.toArray ty (0, 0) hh]
      rw [List.getElem?_drop] at hu
      simpa using hu
    · cases h
  · rename_i cs
    simp only [outO, Option.map_eq_some_iff, Prod.mk.injEq] at h
    obtain ⟨y', ⟨c, h, rfl⟩, rfl, rfl⟩ := h
    simp only [RepX, Rep] at hx
    obtain ⟨b, o, vs, rfl, hl, hm⟩ := hx
    obtain ⟨d, hT⟩ := pieceC_T h
    have h1 : ∀ u ∈ vs, u.oneCell' = true := fun u hu => by
      obtain ⟨i, hi⟩ := List.mem_iff_getElem?.1 hu
      exact (hs.mem _ _ _ (hm i u hi)).2
    obtain ⟨g1, g2, g3⟩ := pieceC_rep hT h hl h1
    refine ⟨rfl, _, ?_, by simpa only [RepX] using g3⟩
    simp only [Instr.loadAt, Instr.sureAddr, Sem.run_bind, Sem.run_pure, Result.andThen_ok]
    exact run_loadVar_cells hT b o vs g1 (fun i u hu => (hs.mem _ _ _ (hm i u hu)).1) g2
  · cases h

/-! ### Addresses -/
theorem mapM_some {α β : Type} (f : α → Option β) : ∀ (l : List α) (r : List β), l.mapM f = some r → ∀ (i : Nat) (y : β), r[i]? = some y → ∃ x, l[i]? = some x ∧ f x = some y
  | [], r, h, i, y, hy => by simp at h; subst h; simp at hy
  | a :: l, r, h, i, y, hy => by
    simp only [List.mapM_cons, Option.bind_eq_bind, Option.pure_def, Option.bind_eq_some_iff, Option.some.injEq] at h
    obtain ⟨b, hb, q, hq, rfl⟩ := h
    cases i with
    | zero => simp at hy; subst hy; exact ⟨a, by simp, hb⟩
    | succ i => simp at hy; simpa using mapM_some f l q hq i y hy

theorem fields_at {fs : Array Field} {fl' : List (Nat × Nat)} {f : Nat} {o z : Nat} (h' : fieldsOf P (.struct fs) = some fl') (h : fl'[f]? = some (o, z)) :
    ∃ fl, fs[f]? = some fl ∧ fl.offset = o ∧ ∃ i, P.info? fl.type = some i ∧ i.size = z := by
  obtain ⟨x, h1, h2⟩ := mapM_some _ _ _ h' f _ h
  simp only [Option.map_eq_some_iff, Prod.mk.injEq] at h2
  obtain ⟨i, hi, h3, h4⟩ := h2
  exact ⟨x, by simpa using h1, h3, i, hi, h4⟩

theorem fieldAddr_sound {t f : Nat} {x y : X} {e : Option Tk} {v : Value} (h : fieldAddrX (TT.of P) t f x = some (y, e)) (hx : RepX k ow x v) :
    e = none ∧ ∃ u, (Instr.fieldAt t v f).run P w = .ok u w ∧ RepX k ow y u := by
  unfold fieldAddrX fieldOff at h
  cases hT : TT.of P t with
  | none => simp [hT] at h
  | some d =>
    have ok := TT.of_ok hT
    simp only [hT, Option.bind_some] at h
    cases hf : d.fields[f]? with
    | none => simp [hf] at h
    | some oz =>
      obtain ⟨o, z⟩ := oz
      simp only [hf] at h
      split at h
      · rename_i hz
        have hfl := ok.fields
        have hund : ∃ fs, d.und = .struct fs := by
          unfold fieldsOf at hfl
          split at hfl
          · exact ⟨_, ‹_›⟩
          · simp only [Option.some.injEq] at hfl
            rw [← hfl] at hf
            simp at hf
        obtain ⟨fs, hund⟩ := hund
        rw [hund] at hfl
        obtain ⟨fl, h1, h2, h3⟩ := fields_at hfl hf
        have hru := ok.run_und w
        rw [hund] at hru
        have hplace : ∀ a : Addr, (fieldPlace a fl).run P w = .ok (a.add o) w := fun a => by
          unfold fieldPlace
          obtain ⟨i, hi, hiz⟩ := h3
          have hsz : (sizeOf fl.type).run P w = .ok z w := by simp [sizeOf, typeInfo, hi, hiz]
          rw [Sem.run_bind, hsz, Result.andThen_ok, if_neg (by omega), h2]
          rfl
        split at h
        · rename_i r off
          simp only [out, Option.some.injEq, Prod.mk.injEq] at h
          obtain ⟨rfl, rfl⟩ := h
          simp only [RepX] at hx
          obtain ⟨b, hb, rfl⟩ := hx
          refine ⟨rfl, .pointer (some ((⟨b, off, none⟩ : Addr).add o)), ?_, ?_⟩
          · simp [Instr.fieldAt, hru, h1, Instr.sureAddr, hplace]
          · simp only [RepX, Addr.add_lit]; exact ⟨b, hb, rfl⟩
        · simp only [out, Option.some.injEq, Prod.mk.injEq] at h
          obtain ⟨rfl, rfl⟩ := h
          simp only [RepX, Rep] at hx
          obtain ⟨b, off, vs, rfl, hl, hm⟩ := hx
          refine ⟨rfl, .pointer (some ((⟨b, off, none⟩ : Addr).add o)), ?_, ?_⟩
          · simp [Instr.fieldAt, hru, h1, Instr.sureAddr, hplace]
          · simp only [RepX, Rep, Addr.add_lit]
            exact ⟨b, off + o, vs.drop o, rfl, hl.drop o, fun i u hu => by
              rw [List.getElem?_drop] at hu
              rw [Nat.add_assoc]
              exact hm _ _ hu⟩
        · cases h
      · cases h

theorem indexAddr_sound {t : Nat} {x i y : X} {e : Option Tk} {v vi : Value} (h : indexAddrX (TT.of P) t x i = some (y, e)) (hx : RepX k ow x v) (hi : RepX k ow i vi) :
    e = none ∧ ∃ u, (Instr.indexAt t v vi).run P w = .ok u w ∧ RepX k ow y u := by
  unfold indexAddrX at h
  split at h
  · cases h
  · rename_i n hn
    obtain rfl := lit_int hn hi
    split at h
    · rename_i el sz by_ ag ze fi hT
      have hru := (TT.of_ok hT).run_und w
      simp only at hru
      split at h
      · rename_i d cs m hd hsl
        split at h
        · rename_i hc
          obtain ⟨h0, hlt, hlen, hpos⟩ := hc
          simp only [out, Option.some.injEq, Prod.mk.injEq] at h
          obtain ⟨rfl, rfl⟩ := h
          have hs := as_sl hsl hx
          simp only [Rep] at hs
          obtain ⟨a, cap, vs, rfl, hcap, hl, hm⟩ := hs
          have hm0 : 0 < m := by omega
          have hvs : vs ≠ [] := by
            intro e
            have := hl.length
            rw [e, hlen] at this
            have : 0 < m * d.size := Nat.mul_pos hm0 hpos
            simp at *
            omega
          obtain ⟨b, o, rfl, hm2⟩ := hm hvs
          refine ⟨rfl, .pointer (some ((⟨b, o, none⟩ : Addr).add (n.toNat * d.size))), ?_, ?_⟩
          · simp [Instr.indexAt, asIntOf, hru, h0, hlt, (TT.of_ok hd).run_size]
          · simp only [RepX, Rep, Addr.add_lit]
            exact ⟨b, _, vs.drop (n.toNat * d.size), rfl, hl.drop _, fun i u hu => by
              rw [List.getElem?_drop] at hu
              rw [Nat.add_assoc]
              exact hm2 _ _ hu⟩
        · cases h
      · cases h
    · rename_i len el sz by_ ag ze fi hT
      have hru := (TT.of_ok hT).run_und w
      simp only at hru
      split at h
      · rename_i d hd
        split at h
        · rename_i hc
          split at h
          · rename_i r off
            simp only [out, Option.some.injEq, Prod.mk.injEq] at h
            obtain ⟨rfl, rfl⟩ := h
            simp only [RepX] at hx
            obtain ⟨b, hb, rfl⟩ := hx
            refine ⟨rfl, .pointer (some ((⟨b, off, none⟩ : Addr).add (n.toNat * d.size))), ?_, ?_⟩
            · simp [Instr.indexAt, asIntOf, hru, hc.1, hc.2, (TT.of_ok hd).run_size, Instr.sureAddr]
            · simp only [RepX, Addr.add_lit]; exact ⟨b, hb, rfl⟩
          · simp only [out, Option.some.injEq, Prod.mk.injEq] at h
            obtain ⟨rfl, rfl⟩ := h
            simp only [RepX, Rep] at hx
            obtain ⟨b, o, vs, rfl, hl, hm⟩ := hx
            refine ⟨rfl, .pointer (some ((⟨b, o, none⟩ : Addr).add (n.toNat * d.size))), ?_, ?_⟩
            · simp [Instr.indexAt, asIntOf, hru, hc.1, hc.2, (TT.of_ok hd).run_size, Instr.sureAddr]
            · simp only [RepX, Rep, Addr.add_lit]
              exact ⟨b, _, vs.drop (n.toNat * d.size), rfl, hl.drop _, fun i u hu => by
                rw [List.getElem?_drop] at hu
                rw [Nat.add_assoc]
                exact hm _ _ hu⟩
          · cases h
        · cases h
      · cases h
    · cases h
end
end Go.Pe

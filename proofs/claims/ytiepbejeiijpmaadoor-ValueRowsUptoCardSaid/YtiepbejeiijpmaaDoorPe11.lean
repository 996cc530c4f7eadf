/-
  An abstract machine for Go code over plain data: two operations that do not wait for each other may change places. Conditions: none.
-/
import Derived.Test.YtiepbejeiijpmaaDoorPe10
namespace Go.Pe
open Go.RowKit

theorem ev_put (s : S) (d : Option Nat) (z : X) (x : Operand) (h : ∀ j, d = some j → x ≠ .tmp j) : (s.put d z).ev x = s.ev x := by
  cases d with
  | none => rfl
  | some d =>
    cases x with
    | tmp t =>
      have : t ≠ d := fun e => h d rfl (by rw [e])
      simp [S.put, S.ev, upd, this]
    | _ => rfl

theorem partsX_congr {f g : Operand → X} : ∀ (ps : List (Nat × Operand)), (∀ p ∈ ps, f p.2 = g p.2) → partsX f ps = partsX g ps
  | [], _ => rfl
  | (i, x) :: r, h => by
    simp only [partsX]
    rw [h (i, x) (by simp), partsX_congr r (fun p hp => h p (by simp [hp]))]

theorem rdAll_congr {f g : Operand → X} : ∀ (l : List Operand), (∀ x ∈ l, f x = g x) → rdAll f l = rdAll g l
  | [], _ => rfl
  | x :: r, h => by
    simp only [rdAll]
    rw [h x (by simp), rdAll_congr r (fun p hp => h p (by simp [hp]))]

theorem val_congr (P : Program) (T : TT) (E : En) {s s' : S} (ix : Nat) (o : Oper) (hc : s'.clk = s.clk) (hob : s'.objs = s.objs) (h : ∀ x ∈ o.op.operands.toList, s'.ev x = s.ev x) :
    val P T E s' ix o = val P T E s ix o := by
  unfold val
  split <;> rename_i ho <;> (try rw [ho] at h)
  · rw [h _ (by simp [Op.operands])]
  · rw [h _ (by simp [Op.operands])]
  · rw [h _ (by simp [Op.operands]), h _ (by simp [Op.operands]), h _ (by simp [Op.operands])]
  · rw [h _ (by simp [Op.operands]), h _ (by simp [Op.operands])]
  · rw [h _ (by simp [Op.operands])]
  · rw [h _ (by simp [Op.operands]), hob]
  · rw [h _ (by simp [Op.operands])]
  · rw [h _ (by simp [Op.operands])]
  · rw [h _ (by simp [Op.operands]), h _ (by simp [Op.operands])]
  · rw [h _ (by simp [Op.operands]), h _ (by simp [Op.operands])]
  · rename_i t x lo hi
    rw [h x (by simp [Op.operands])]
    have h1 : lo.map s'.ev = lo.map s.ev := by
      cases lo with
      | none => rfl
      | some y => simp [h y (by simp [Op.operands])]
    have h2 : hi.map s'.ev = hi.map s.ev := by
      cases hi with
      | none => rfl
      | some y => simp [h y (by simp [Op.operands])]
    rw [h1, h2]
  · rename_i t ps
    rw [partsX_congr (f := s'.ev) (g := s.ev) ps.toList (fun p hp => h p.2 (by simp only [Op.operands]; exact List.mem_map.2 ⟨p, hp, rfl⟩))]
  · rename_i t n ps
    rw [partsX_congr (f := s'.ev) (g := s.ev) ps.toList (fun p hp => h p.2 (by simp only [Op.operands]; exact List.mem_map.2 ⟨p, hp, rfl⟩)), hc]
  · rw [h _ (by simp [Op.operands])]
  · rw [h _ (by simp [Op.operands])]
  · rename_i f first caps
    rw [rdAll_congr (f := s'.ev) (g := s.ev) caps.toList (fun x hx => h x (by simp only [Op.operands, Array.toList_append, List.mem_append]; exact .inr hx))]
  · rw [h _ (by simp [Op.operands])]
  · rw [h _ (by simp [Op.operands]), h _ (by simp [Op.operands]), hob]
  · rw [h _ (by simp [Op.operands])]
  · rename_i cal args tys
    have hargs : ∀ x ∈ args.toList, s'.ev x = s.ev x := fun x hx => h x (by simp only [Op.operands, Call.operands, Array.toList_append, List.mem_append]; exact .inr hx)
    unfold valCall
    split
    · rename_i hl _; rw [hargs _ (by rw [hl]; simp)]
    · rename_i hl _; rw [hargs _ (by rw [hl]; simp), hargs _ (by rw [hl]; simp), hc]
    · rename_i f
      rw [rdAll_congr (f := s'.ev) (g := s.ev) args.toList hargs, h f (by simp [Op.operands, Call.operands]), hc]
    · rfl
  · rfl

/-- What an operation that turns no object yields in a state. -/
def Y (P : Program) (T : TT) (E : En) (ops : Array Oper) (s : S) (ix : Nat) (o : Oper) (x : X) (e : Option Tk) : Prop :=
  (guardOk ops s o = some true ∧ val P T E s ix o = some (x, e) ∧ okTk s.clk o.after.toList e = true) ∨ (guardOk ops s o = some false ∧ x = .of .undef ∧ e = none)

section
variable {P : Program} {T : TT} {E : En} {ops : Array Oper} {s : S} {ix : Nat} {o : Oper}

theorem step_neutral : step P T E true s ix o = stepV P T E s ix o := rfl

theorem Y_of_step {q : Option X} {s' : S} (h : stepG P T E true ops s ix o = some (q, s')) : q = none ∧ ∃ x e, Y P T E ops s ix o x e ∧ s' = (s.drop e).put o.dst x := by
  unfold stepG at h
  split at h
  · rename_i hg
    rw [step_neutral] at h
    unfold stepV at h
    split at h
    · rename_i x e hv
      split at h
      · rename_i hok
        simp only [Option.some.injEq, Prod.mk.injEq] at h
        exact ⟨h.1.symm, x, e, .inl ⟨hg, hv, hok⟩, h.2.symm⟩
      · cases h
    · cases h
  · rename_i hg
    simp only [Option.some.injEq, Prod.mk.injEq] at h
    exact ⟨h.1.symm, _, none, .inr ⟨hg, rfl, rfl⟩, h.2.symm⟩
  · cases h

theorem step_of_Y {x : X} {e : Option Tk} (h : Y P T E ops s ix o x e) : stepG P T E true ops s ix o = some (none, (s.drop e).put o.dst x) := by
  unfold stepG
  rcases h with ⟨hg, hv, hok⟩ | ⟨hg, rfl, rfl⟩
  · rw [hg, step_neutral]
    unfold stepV
    simp only [hv, hok, if_true]
  · rw [hg]
    rfl

theorem guard_drop (t : Tk) : guardOk ops (s.drop (some t)) o = guardOk ops s o := by
  unfold guardOk
  split
  · rfl
  · split
    · rename_i d _
      simp only [S.drop]
      cases s.fr d with
      | own t' e z cs n => rcases own_drop t t' e z cs n with h | h <;> rw [h]
      | _ => rfl
    · rfl

theorem guard_put {d : Option Nat} {z : X} (h : ∀ j, d = some j → j ∉ o.looksAt ops) : guardOk ops (s.put d z) o = guardOk ops s o := by
  unfold guardOk
  split
  · rfl
  · rename_i j want hg
    split
    · rename_i c hc
      have hne : ∀ q, d = some q → c ≠ q := fun q hq e => h q hq (by
        unfold Oper.looksAt
        rw [hg]
        simp [hc, e])
      cases d with
      | none => rfl
      | some q =>
        have := hne q rfl
        simp [S.put, upd, this]
    · rfl

theorem Y_put {x : X} {e : Option Tk} {d : Option Nat} {z : X} (h : ∀ j, d = some j → j ∉ o.looksAt ops) : Y P T E ops (s.put d z) ix o x e ↔ Y P T E ops s ix o x e := by
  unfold Y
  have hv : val P T E (s.put d z) ix o = val P T E s ix o := by
    refine val_congr P T E ix o (by cases d <;> rfl) (by cases d <;> rfl) fun y hy => ev_put s d z y fun j hj e => h j hj ?_
    unfold Oper.looksAt
    rw [List.mem_append]
    refine .inl (List.mem_filterMap.2 ⟨y, hy, ?_⟩)
    rw [e]
  rw [guard_put h, hv, show (s.put d z).clk = s.clk by cases d <;> rfl]

theorem Y_drop {x : X} {e : Option Tk} {t : Tk} (ht : ∀ i, t ≠ .nm s.clk ix i) (hne : e ≠ some t) (h : Y P T E ops s ix o x e) : Y P T E ops (s.drop (some t)) ix o (x.drop t) e := by
  unfold Y at *
  rw [guard_drop, val_drop P T E t s ix ht o]
  rcases h with ⟨hg, hv, hok⟩ | ⟨hg, rfl, rfl⟩
  · exact .inl ⟨hg, by rw [hv]; simp [mapD, hne], hok⟩
  · exact .inr ⟨hg, rfl, rfl⟩

theorem Y_undrop {x : X} {e : Option Tk} {t : Tk} (ht : ∀ i, t ≠ .nm s.clk ix i) (h : Y P T E ops (s.drop (some t)) ix o x e) : ∃ x', Y P T E ops s ix o x' e ∧ x = x'.drop t ∧ e ≠ some t := by
  unfold Y at *
  rw [guard_drop, val_drop P T E t s ix ht o] at h
  rcases h with ⟨hg, hv, hok⟩ | ⟨hg, rfl, rfl⟩
  · cases hval : val P T E s ix o with
    | none => rw [hval] at hv; simp [mapD] at hv
    | some p =>
      obtain ⟨x', u⟩ := p
      rw [hval] at hv
      simp only [mapD] at hv
      split at hv
      · cases hv
      · rename_i hne
        simp only [Option.some.injEq, Prod.mk.injEq] at hv
        obtain ⟨rfl, rfl⟩ := hv
        exact ⟨x', .inl ⟨hg, rfl, hok⟩, rfl, hne⟩
  · exact ⟨.of .undef, .inr ⟨hg, rfl, rfl⟩, rfl, by simp⟩

/-- A right used up is an old one, or one that an operation yields for which it waits. -/
theorem Y_tk {x : X} {c j i : Nat} (h : Y P T E ops s ix o x (some (.nm c j i))) : c < s.clk ∨ (c = s.clk ∧ ∃ e ∈ o.after, Region.binds .any e = true ∧ e.on = j) := by
  rcases h with ⟨_, _, hok⟩ | ⟨_, _, h⟩
  · simp only [okTk, Bool.or_eq_true, decide_eq_true_eq, Bool.and_eq_true, List.any_eq_true, beq_iff_eq] at hok
    rcases hok with h | ⟨h1, e, he, h2, h3⟩
    · exact .inl h
    · exact .inr ⟨h1, e, by simpa using he, h2, h3⟩
  · cases h
end

theorem put_drop (s : S) (d : Option Nat) (x : X) (t : Tk) : (s.put d x).drop (some t) = (s.drop (some t)).put d (x.drop t) := by
  cases d with
  | none => rfl
  | some d =>
    simp only [S.put, S.drop]
    congr 1
    funext j
    simp only [upd]
    split <;> rfl

theorem put_put (s : S) {d c : Option Nat} (x y : X) (h : ∀ j, d = some j → c ≠ some j) : (s.put d x).put c y = (s.put c y).put d x := by
  cases d with
  | none => rfl
  | some d =>
    cases c with
    | none => rfl
    | some c =>
      have hne : c ≠ d := fun e => h d rfl (by rw [e])
      simp only [S.put]
      congr 1
      funext j
      simp only [upd]
      by_cases h1 : j = d
      · subst h1
        rw [if_neg (Ne.symm hne)]
        simp
      · simp [h1]

theorem obdrop_drop (t u : Tk) (o : Ob) : (o.drop t).drop u = (o.drop u).drop t := by
  cases o with
  | var ty xs => simp only [Ob.drop, drops_eq, List.map_map]; congr 1; apply List.map_congr_left; intro x _; exact drop_drop t u x
  | map es => rfl

theorem sdrop_drop (s : S) (e u : Option Tk) : (s.drop e).drop u = (s.drop u).drop e := by
  cases e with
  | none => rfl
  | some e =>
    cases u with
    | none => rfl
    | some u =>
      simp only [S.drop]
      congr 1
      · funext j; exact drop_drop e u _
      · simp only [List.map_map]; apply List.map_congr_left; intro o _; exact obdrop_drop e u o

/-- Two operations, apart from each other, in either order. -/
theorem comm {P : Program} {T : TT} {E : En} {ops : Array Oper} {s s1 s2 : S} {i j : Nat} {oi oj : Oper} (hap : oi.apart ops oj = true)
    (hij : ∀ e ∈ oi.after, Region.binds .any e = true → e.on ≠ j) (hji : ∀ e ∈ oj.after, Region.binds .any e = true → e.on ≠ i)
    (h1 : stepG P T E true ops s i oi = some (none, s1)) (h2 : stepG P T E true ops s1 j oj = some (none, s2)) : ∃ s', stepG P T E true ops s j oj = some (none, s') ∧ stepG P T E true ops s' i oi = some (none, s2) := by
  obtain ⟨a1, a2, a3⟩ := Oper.apart_spec hap
  obtain ⟨_, xi, ei, yi, rfl⟩ := Y_of_step h1
  obtain ⟨_, xj, ej, yj, rfl⟩ := Y_of_step h2
  have yj1 : Y P T E ops (s.drop ei) j oj xj ej := (Y_put (fun d hd => a1 d hd)).1 yj
  -- the second, in the state before the first
  obtain ⟨xj', yj2, hxj, hne⟩ : ∃ x', Y P T E ops s j oj x' ej ∧ xj = dropOpt ei x' ∧ (ei = none ∨ ej ≠ ei) := by
    cases ei with
    | none => exact ⟨xj, yj1, rfl, .inl rfl⟩
    | some t =>
      have ht : ∀ q, t ≠ .nm s.clk j q := fun q e => by
        subst e
        rcases Y_tk yi with h | ⟨_, e, he, hb, h⟩
        · omega
        · exact hij e he hb h
      obtain ⟨x', g1, g2, g3⟩ := Y_undrop ht yj1
      exact ⟨x', g1, g2, .inr g3⟩
  refine ⟨(s.drop ej).put oj.dst xj', step_of_Y yj2, ?_⟩
  -- the first, in the state behind the second
  have yi2 : Y P T E ops (s.drop ej) i oi (dropOpt ej xi) ei := by
    cases ej with
    | none => exact yi
    | some t =>
      have ht : ∀ q, t ≠ .nm s.clk i q := fun q e => by
        subst e
        rcases Y_tk yj2 with h | ⟨_, e, he, hb, h⟩
        · omega
        · exact hji e he hb h
      refine Y_drop ht ?_ yi
      rcases hne with h | h
      · rw [h]; simp
      · exact Ne.symm h
  have yi3 : Y P T E ops ((s.drop ej).put oj.dst xj') i oi (dropOpt ej xi) ei := (Y_put (fun d hd => a3 d hd)).2 yi2
  rw [step_of_Y yi3]
  congr 1
  have hd : ∀ d, oj.dst = some d → oi.dst ≠ some d := fun d hd e => a2 d e hd
  have e1 : ((s.drop ej).put oj.dst xj').drop ei = ((s.drop ej).drop ei).put oj.dst xj := by
    rw [hxj]
    cases ei with
    | none => rfl
    | some t => exact put_drop _ _ _ _
  have e2 : ((s.drop ei).put oi.dst xi).drop ej = ((s.drop ei).drop ej).put oi.dst (dropOpt ej xi) := by
    cases ej with
    | none => rfl
    | some t => exact put_drop _ _ _ _
  rw [e1, e2, put_put _ _ _ (fun d h => hd d h), sdrop_drop]

/-! ### Whatever order is picked -/
def anyA (P : Program) (T : TT) (E : En) (ops : Array Oper) (Q : S → Prop) : Nat → Array Bool → S → Prop
  | 0, listed, s => Region.ready .any ops listed = [] ∧ Q s
  | fuel + 1, listed, s => (Region.ready .any ops listed = [] → Q s) ∧
    ∀ i ∈ Region.ready .any ops listed, ∃ o s', ops[i]? = some o ∧ stepG P T E true ops s i o = some (none, s') ∧ anyA P T E ops Q fuel (listed.setIfInBounds i true) s'

section
variable {P : Program} {T : TT} {E : En} {ops : Array Oper} {Q : S → Prop}

theorem ready_after {i : Nat} {listed : Array Bool} {o : Oper} (hi : i ∈ Region.ready .any ops listed) (ho : ops[i]? = some o) {j : Nat} (hj : listed.getD j true = false) : ∀ e ∈ o.after, Region.binds .any e = true → e.on ≠ j := by
  obtain ⟨_, oi, hoi, hall⟩ := mem_ready.1 hi
  obtain rfl : oi = o := Option.some.inj (hoi.symm.trans ho)
  intro e he hb heq
  have h1 := hall e he hb
  rw [heq] at h1
  rcases Nat.lt_or_ge j listed.size with h' | h'
  · simp [h'] at hj h1; rw [hj] at h1; cases h1
  · simp [Array.getElem?_eq_none h'] at h1

theorem anyA_first {i : Nat} {oi : Oper} (hi : ops[i]? = some oi) : ∀ (fuel : Nat) (listed : Array Bool) (s s1 : S),
    (∀ (j : Nat) (oj : Oper), ops[j]? = some oj → j ≠ i → listed.getD j true = false → (∀ e ∈ oj.after, Region.binds .any e = true → e.on ≠ i) → oi.apart ops oj = true) →
    i ∈ Region.ready .any ops listed → stepG P T E true ops s i oi = some (none, s1) → anyA P T E ops Q fuel (listed.setIfInBounds i true) s1 → anyA P T E ops Q (fuel + 1) listed s := by
  intro fuel
  induction fuel with
  | zero =>
    intro listed s s1 _ hr hs H
    refine ⟨fun h => (by rw [h] at hr; cases hr), fun j hj => ?_⟩
    by_cases hji : j = i
    · subst hji; exact ⟨oi, s1, hi, hs, H⟩
    · have := ready_mono hj hji
      rw [H.1] at this
      cases this
  | succ fuel ih =>
    intro listed s s1 hfree hr hs H
    refine ⟨fun h => (by rw [h] at hr; cases hr), fun j hj => ?_⟩
    by_cases hji : j = i
    · subst hji; exact ⟨oi, s1, hi, hs, H⟩
    · obtain ⟨oj, s2, hoj, hs2, H2⟩ := H.2 j (ready_mono hj hji)
      have hjun := (mem_ready.1 hj).1
      have hiun := (mem_ready.1 hr).1
      have hji' := ready_after hj hoj hiun
      have hij' := ready_after hr hi hjun
      obtain ⟨s', g1, g2⟩ := comm (hfree j oj hoj hji hjun hji') hij' hji' hs hs2
      refine ⟨oj, s', hoj, g1, ih (listed.setIfInBounds j true) s' s2 (fun k ok hk hki hun hno => ?_) (ready_mono hr (Ne.symm hji)) g2 (by rw [Array.setIfInBounds_comm _ _ hji]; exact H2)⟩
      refine hfree k ok hk hki ?_ hno
      by_cases hjk : j = k
      · subst hjk; exact hjun
      · rw [getD_set_ne true hjk] at hun; exact hun

theorem anyA_lex : ∀ (l : List Oper) (n : Nat) (listed : Array Bool) (s s' : S), (∀ j, l[j]? = ops[n + j]?) → Region.lexFrom .any ops l.length n listed = true →
    evOps P T E true ops n l s = some (none, s') → Q s' → anyA P T E ops Q l.length listed s
  | [], n, listed, s, s', _, hB, h, hQ => by
    simp only [evOps, Option.some.injEq, Prod.mk.injEq, true_and] at h
    subst h
    exact ⟨by simpa [Region.lexFrom] using hB, hQ⟩
  | o :: l, n, listed, s, s', hl, hB, h, hQ => by
    have h0 : ops[n]? = some o := by simpa using (hl 0).symm
    simp only [List.length_cons, Region.lexFrom, Bool.and_eq_true] at hB
    obtain ⟨⟨hr, hf⟩, hB'⟩ := hB
    simp only [evOps] at h
    split at h
    · rename_i s1 h1
      exact anyA_first h0 l.length listed s s1 (Region.free_spec h0 hf) (by simpa using hr) h1
        (anyA_lex l (n + 1) _ s1 s' (fun j => by have := hl (j + 1); simpa [Nat.add_assoc, Nat.add_comm 1 j] using this) hB' h hQ)
    · cases h
    · cases h
end

section
variable {P : Program} {M0 : Base} {w0 : World} {N : Nat}

theorem anyA_sound {E : En} (horc : EnSound P M0.G E) {ops : Array Oper} (hdst : ∀ (j : Nat) (o : Oper), ops[j]? = some o → dstOk N o = true) {Q : Exit → Act → World → Prop} {Qs : S → Prop} {k0 : Know}
    (hQ : ∀ s' tmps' w' k' ow' done', k0.le k' → Qs s' → Sim M0 k' ow' done' w0 w' N s' tmps' → Q .normal ⟨tmps', []⟩ w') : ∀ (fuel : Nat) (listed : Array Bool) (s : S) (w : World) (tmps : Array Value) (k : Know) (ow : Own),
    k0.le k → Sim M0 k ow (fun j => listed.getD j true = true) w0 w N s tmps → anyA P (TT.of P) E ops Qs fuel listed s → wpAny P .any ops Q fuel listed ⟨tmps, []⟩ w
  | 0, listed, s, w, tmps, k, ow, hk, hs, h => ⟨h.1, hQ s tmps w k ow _ hk h.2 hs⟩
  | fuel + 1, listed, s, w, tmps, k, ow, hk, hs, h => by
    refine ⟨fun h0 => hQ s tmps w k ow _ hk (h.1 h0) hs, fun i hi => ?_⟩
    obtain ⟨o, s', ho, hst, H⟩ := h.2 i hi
    have hun := (mem_ready.1 hi).1
    refine stepG_sound hs horc (by rw [hun]; simp) ho (hdst i o ho) hst (fun _ tmps' w' k' ow' g1 g2 => ?_) (fun x hx => by cases hx)
    refine anyA_sound horc hdst hQ fuel _ s' w' tmps' k' ow' (Know.le_trans hk g1) (g2.more fun j hj => ?_) H
    rcases hj with hj | rfl
    · by_cases hij : i = j
      · subst hij; rw [hun] at hj; cases hj
      · rw [getD_set_ne true hij]; exact hj
    · rcases Nat.lt_or_ge j listed.size with g | g
      · simp [g]
      · simp [g]

/-- In a region that draws its order nothing panics. -/
theorem evOps_calm {P : Program} {T : TT} {E : En} {ops : Array Oper} : ∀ (l : List Oper) (n : Nat) (s : S) (q : Option X) (s' : S), evOps P T E true ops n l s = some (q, s') → q = none
  | [], n, s, q, s', h => by
    simp only [evOps, Option.some.injEq, Prod.mk.injEq] at h
    exact h.1.symm
  | o :: l, n, s, q, s', h => by
    simp only [evOps] at h
    split at h
    · exact evOps_calm l _ _ _ _ h
    · rename_i h1
      exact absurd (Y_of_step h1).1 (by simp)
    · cases h

/-- A region, of either kind. -/
theorem region_sound (hm : P.follows .mixedOrders = true) {E : En} (horc : EnSound P M0.G E) {id : Nat} {ops : Array Oper} {draw : Bool} (hok : opsOk N ops draw = true) {s : S} {q : Option X} {s' : S} {w : World} {tmps : Array Value} {k : Know} {ow : Own}
    (hs : Sim M0 k ow (fun _ => False) w0 w N s tmps) (h : evOps P (TT.of P) E draw ops 0 ops.toList s = some (q, s')) {Q : Exit → Act → World → Prop}
    (hQ : q = none → ∀ tmps' w' k' ow', k.le k' → Sim M0 k' ow' (fun _ => False) w0 w' N { s' with clk := s'.clk + 1 } tmps' → Q .normal ⟨tmps', []⟩ w')
    (hP : ∀ x, q = some x → ∀ v tmps' w' k' ow', k.le k' → Sim M0 k' ow' (fun _ => False) w0 w' N { s' with clk := s'.clk + 1 } tmps' → RepX k' ow' x v → Q (.panic [{ v := v, recovered := false }]) ⟨tmps', []⟩ w') : (Code.region id ops draw).wp P Q ⟨tmps, []⟩ w := by
  unfold opsOk at hok
  simp only [Bool.and_eq_true, Bool.or_eq_true, Bool.not_eq_true'] at hok
  obtain ⟨hd, hok⟩ := hok
  have hdst : ∀ o ∈ ops.toList, dstOk N o = true := fun o ho => by
    rw [Array.all_eq_true_iff_forall_mem] at hd
    exact hd o (by simpa using ho)
  cases draw with
  | false =>
    refine wp_region ?_
    rw [List.range_eq_range', ← Array.length_toList]
    exact evOps_sound horc ops.toList 0 s w tmps k ow _ (by simp) hdst (fun j hj => hj.elim) hs h (fun he tmps' w' k' ow' done' g1 g2 => hQ he tmps' w' k' ow' g1 g2.tick) (fun x he v tmps' w' k' ow' done' g1 g2 g3 => hP x he v tmps' w' k' ow' g1 g2.tick g3)
  | true =>
    simp only [Bool.true_eq_false, false_or] at hok
    have hlex := hok
    obtain rfl := evOps_calm _ _ _ _ _ h
    unfold Region.lexB at hlex
    simp only [Bool.and_eq_true] at hlex
    refine wp_region_any hm ?_
    have hb : Below w.heap.size w { w with drawn := w.drawn + 1 } := ⟨rfl, rfl, rfl, Nat.le_refl _, fun _ _ => rfl⟩
    have h1 := anyA_lex (P := P) (T := TT.of P) (E := E) (Q := fun t => t = s') ops.toList 0 (Array.replicate ops.size false) s s' (by simp) (by simpa using hlex.2) h rfl
    have h2 := (hs.grow hb).more (done' := fun j => (Array.replicate ops.size false).getD j true = true) (fun _ h => h.elim)
    have h3 := anyA_sound (P := P) horc (fun j o ho => hdst o (by simpa using Array.mem_of_getElem? ho)) (Q := Q) (Qs := fun t => t = s') (k0 := k) (fun t tmps' w' k' ow' done' g1 g2 g3 => by subst g2; exact hQ rfl tmps' w' k' ow' g1 g3.tick) _ _ s _ tmps k ow (Know.le_refl k) h2 h1
    simpa using h3
end
end Go.Pe

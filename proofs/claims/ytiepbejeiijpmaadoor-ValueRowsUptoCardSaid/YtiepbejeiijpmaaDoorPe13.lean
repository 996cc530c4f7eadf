/-
  An abstract machine for Go code over plain data: rules by which the evaluator is run on symbols. Conditions: none.
-/
import Derived.Test.YtiepbejeiijpmaaDoorPe12
namespace Go.Pe

/-! ### More fuel, the same answer -/
def Orc.le (a b : Orc) : Prop := ∀ f xs obs an, a f xs obs = some an → b f xs obs = some an
structure En.le (a b : En) : Prop where
  orc : Orc.le a.orc b.orc
  obj : a.obj = b.obj
  tk : a.tk = b.tk

theorem callX_mono {P : Program} {E E' : En} (h : En.le E E') {clk ix f : Nat} {cs : List C} {y : X × Option Tk} (hv : callX P E clk ix f cs = some y) : callX P E' clk ix f cs = some y := by
  unfold callX at *
  rw [← h.obj]
  split at hv
  · rename_i hc
    rw [if_pos hc]
    split at hv
    · rename_i rs hr
      rw [h.orc _ _ _ _ hr]
      exact hv
    · cases hv
  · cases hv

theorem val_mono {P : Program} {T : TT} {E E' : En} (h : En.le E E') {s : S} {ix : Nat} {o : Oper} {y : X × Option Tk} (hv : val P T E s ix o = some y) : val P T E' s ix o = some y := by
  unfold val at *
  split at hv <;> (try exact hv)
  unfold valCall at *
  split at hv
  · exact hv
  · exact hv
  · split at hv
    · exact callX_mono h hv
    · cases hv
  · cases hv

theorem stepV_mono {P : Program} {T : TT} {E E' : En} (h : En.le E E') {s : S} {ix : Nat} {o : Oper} {y : Option X × S} (hv : stepV P T E s ix o = some y) : stepV P T E' s ix o = some y := by
  unfold stepV at *
  split at hv
  · rename_i x t hx
    rw [val_mono h hx]
    exact hv
  · cases hv

theorem step_mono {P : Program} {T : TT} {E E' : En} (h : En.le E E') {dr : Bool} {s : S} {ix : Nat} {o : Oper} {y : Option X × S} (hv : step P T E dr s ix o = some y) : step P T E' dr s ix o = some y := by
  unfold step at *
  split at hv
  · rename_i hd
    rw [if_pos hd]
    exact stepV_mono h hv
  · rename_i hd
    rw [if_neg hd]
    split at hv
    · exact hv
    · exact hv
    · exact hv
    · exact hv
    · exact hv
    · exact hv
    · exact hv
    · split at hv
      · rename_i g us htg
        rw [← h.obj]
        split at hv
        · rename_i ho
          rw [if_pos ho]
          unfold callS at *
          rw [← h.tk]
          split at hv
          · rename_i hc
            rw [if_pos hc]
            simp only at hv ⊢
            split at hv
            · rename_i obs hobs
              split at hv
              · rename_i an han
                rw [h.orc _ _ _ _ han]
                exact hv
              · cases hv
            · cases hv
          · cases hv
        · rename_i ho
          rw [if_neg ho]
          exact stepV_mono h hv
      · cases hv
    · exact stepV_mono h hv

theorem evOps_mono {P : Program} {T : TT} {E E' : En} (h : En.le E E') {dr : Bool} {ops : Array Oper} {y : Option X × S} : ∀ (l : List Oper) (n : Nat) (s : S), evOps P T E dr ops n l s = some y → evOps P T E' dr ops n l s = some y
  | [], _, _, hv => hv
  | o :: l, n, s, hv => by
    have hst : ∀ z, stepG P T E dr ops s n o = some z → stepG P T E' dr ops s n o = some z := fun z h1 => by
      unfold stepG at *
      split at h1
      · exact step_mono h h1
      · exact h1
      · cases h1
    simp only [evOps] at hv ⊢
    split at hv
    · rename_i s1 h1
      rw [hst _ h1]
      exact evOps_mono h l _ _ hv
    · rename_i x s1 h1
      rw [hst _ h1]
      exact hv
    · cases hv

theorem enOf_mono {P : Program} {T : TT} {pr : Pr} {a b : Code → S → Option (Ex × S)} (h : ∀ c s r, a c s = some r → b c s = some r) : En.le (enOf P T pr a) (enOf P T pr b) where
  obj := rfl
  tk := rfl
  orc := by
    intro f xs obs an hr
    simp only [enOf, orcOf] at *
    split at hr
    · rename_i r' hp; simpa [hp] using hr
    · unfold callOf at *
      split at hr
      · rename_i hc
        rw [if_pos hc]
        split at hr
        · rename_i s1 h1; rw [h _ _ _ h1]; exact hr
        · rename_i s1 h1; rw [h _ _ _ h1]; exact hr
        · rename_i x s1 h1; rw [h _ _ _ h1]; exact hr
        · cases hr
      · cases hr

theorem evC_seqE (P : Program) (T : TT) (pr : Pr) (n : Nat) (a b : Code) (s : S) : evC P T pr (n + 1) (.seq a b) s = match evC P T pr n a s with
    | some (.normal, s') => evC P T pr n b s'
    | r => r := rfl
theorem evC_blockE (P : Program) (T : TT) (pr : Pr) (n i : Nat) (c : Code) (s : S) : evC P T pr (n + 1) (.block i c) s = match evC P T pr n c s with
    | some (.exit j, s') => some (if j = i then .normal else .exit j, s')
    | r => r := rfl
theorem evC_condE (P : Program) (T : TT) (pr : Pr) (n : Nat) (c : Operand) (a b : Code) (s : S) : evC P T pr (n + 1) (.cond c a b) s = match litBool (s.ev c) with
    | some true => evC P T pr n a s
    | some false => evC P T pr n b s
    | none => none := rfl
theorem evC_loopE (P : Program) (T : TT) (pr : Pr) (n : Nat) (c : Code) (s : S) : evC P T pr (n + 1) (.loop c) s = match evC P T pr n c s with
    | some (.normal, s') => evC P T pr n (.loop c) s'
    | r => r := rfl
theorem evC_regionE (P : Program) (T : TT) (pr : Pr) (n id : Nat) (ops : Array Oper) (draw : Bool) (s : S) : evC P T pr (n + 1) (.region id ops draw) s = match evOps P T (enOf P T pr (evC P T pr n)) draw ops 0 ops.toList s with
    | some (none, s') => some (.normal, { s' with clk := s'.clk + 1 })
    | some (some x, s') => some (.pan x, { s' with clk := s'.clk + 1 })
    | none => none := rfl

theorem evC_succ {P : Program} {T : TT} {pr : Pr} : ∀ (n : Nat) (c : Code) (s : S) (r : Ex × S), evC P T pr n c s = some r → evC P T pr (n + 1) c s = some r
  | 0, c, s, r, h => by simp [evC] at h
  | n + 1, c, s, r, h => by
    have ih := evC_succ (P := P) (T := T) (pr := pr) n
    cases c with
    | seq a b =>
      rw [evC_seqE] at h ⊢
      split at h
      · rename_i s1 h1; rw [ih _ _ _ h1]; exact ih _ _ _ h
      · rename_i hne
        cases h2 : evC P T pr n a s with
        | none => rw [h2] at h; cases h
        | some p =>
          obtain ⟨e, s1⟩ := p
          rw [ih _ _ _ h2]
          cases e with
          | normal => exact (hne s1 h2).elim
          | exit i => rw [h2] at h; exact h
          | ret => rw [h2] at h; exact h
          | pan x => rw [h2] at h; exact h
    | block i c =>
      rw [evC_blockE] at h ⊢
      cases h2 : evC P T pr n c s with
      | none => rw [h2] at h; cases h
      | some p => rw [ih _ _ _ h2]; rw [h2] at h; exact h
    | cond c a b =>
      rw [evC_condE] at h ⊢
      split at h
      · exact ih _ _ _ h
      · exact ih _ _ _ h
      · cases h
    | loop c =>
      rw [evC_loopE] at h ⊢
      cases h2 : evC P T pr n c s with
      | none => rw [h2] at h; cases h
      | some p =>
        obtain ⟨e, s1⟩ := p
        rw [ih _ _ _ h2]
        rw [h2] at h
        cases e with
        | normal => exact ih _ _ _ h
        | exit i => exact h
        | ret => exact h
        | pan x => exact h
    | region id ops draw =>
      rw [evC_regionE] at h ⊢
      split at h
      · rename_i s1 h1
        rw [evOps_mono (enOf_mono ih) _ _ _ h1]
        exact h
      · rename_i x s1 h1
        rw [evOps_mono (enOf_mono ih) _ _ _ h1]
        exact h
      · cases h
    | skip => simpa only [evC] using h
    | ret => simpa only [evC] using h
    | exit i => simpa only [evC] using h
    | _ => simp [evC] at h

theorem evC_mono {P : Program} {T : TT} {pr : Pr} {n m : Nat} (h : n ≤ m) {c : Code} {s : S} {r : Ex × S} (hr : evC P T pr n c s = some r) : evC P T pr m c s = some r := by
  induction m with
  | zero => obtain rfl : n = 0 := by omega
            exact hr
  | succ m ih =>
    rcases Nat.lt_or_ge n (m + 1) with g | g
    · exact evC_succ m c s r (ih (by omega))
    · obtain rfl : n = m + 1 := by omega
      exact hr

/-! ### The rules -/
section
variable (P : Program) (pr : Pr)

def enN (n : Nat) : En := enOf P (TT.of P) pr (evC P (TT.of P) pr n)
theorem enN_mono {n m : Nat} (h : n ≤ m) : En.le (enN P pr n) (enN P pr m) := enOf_mono fun _ _ _ hr => evC_mono h hr

/-- A call of f, given this, is answered so. -/
def Gives (f : Nat) (xs : List X) (obs : List Ob) (an : An) : Prop := ∃ n, (enN P pr n).orc f xs obs = some an
def CallK (f : Nat) (xs : List X) (obs : List Ob) (K : An → Prop) : Prop := ∃ an, Gives P pr f xs obs an ∧ K an
def WC (c : Code) (s : S) (Q : Ex → S → Prop) : Prop := ∃ n e s', evC P (TT.of P) pr n c s = some (e, s') ∧ Q e s'
def WO (dr : Bool) (ops : Array Oper) (k : Nat) (l : List Oper) (s : S) (Q : Option X → S → Prop) : Prop := ∃ n e s', evOps P (TT.of P) (enN P pr n) dr ops k l s = some (e, s') ∧ Q e s'
def SO (dr : Bool) (k : Nat) (o : Oper) (s : S) (Q : Option X → S → Prop) : Prop := ∃ n e s', step P (TT.of P) (enN P pr n) dr s k o = some (e, s') ∧ Q e s'

def thenQ (b : Code) (Q : Ex → S → Prop) : Ex → S → Prop
  | .normal, s => WC P pr b s Q
  | .exit i, s => Q (.exit i) s
  | .ret, s => Q .ret s
  | .pan x, s => Q (.pan x) s
def blockQ (i : Nat) (Q : Ex → S → Prop) : Ex → S → Prop
  | .normal, s => Q .normal s
  | .exit j, s => if j = i then Q .normal s else Q (.exit j) s
  | .ret, s => Q .ret s
  | .pan x, s => Q (.pan x) s
def regQ (Q : Ex → S → Prop) : Option X → S → Prop
  | none, s => Q .normal { s with clk := s.clk + 1 }
  | some x, s => Q (.pan x) { s with clk := s.clk + 1 }
/-- The rest of a region, if all is well. -/
def nextQ (F : S → Prop) (Q : Option X → S → Prop) : Option X → S → Prop
  | none, s => F s
  | some x, s => Q (some x) s
def condQ : Option Bool → Prop → Prop → Prop
  | some b, p, q => if b = true then p else q
  | none, _, _ => False
def guardQ : Option Bool → Prop → Prop → Prop
  | some true, p, _ => p
  | some false, _, q => q
  | none, _, _ => False

variable {P pr}

theorem Gives.unique {f : Nat} {xs : List X} {obs : List Ob} {r r' : An} (h : Gives P pr f xs obs r) (h' : Gives P pr f xs obs r') : r = r' := by
  obtain ⟨n, hn⟩ := h
  obtain ⟨m, hm⟩ := h'
  have h1 := (enN_mono P pr (Nat.le_max_left n m)).orc _ _ _ _ hn
  have h2 := (enN_mono P pr (Nat.le_max_right n m)).orc _ _ _ _ hm
  exact Option.some.inj (h1.symm.trans h2)

theorem Gives.k {f : Nat} {xs : List X} {obs : List Ob} {r : An} (h : Gives P pr f xs obs r) (K : An → Prop) : CallK P pr f xs obs K ↔ K r :=
  ⟨fun ⟨_, h1, h2⟩ => h.unique h1 ▸ h2, fun h2 => ⟨r, h, h2⟩⟩

theorem Zy (s : S) (Q : Ex → S → Prop) : WC P pr .skip s Q ↔ Q .normal s :=
  ⟨fun ⟨n, e, s', h, hq⟩ => by
    cases n with
    | zero => simp [evC] at h
    | succ n => simp only [evC, Option.some.injEq, Prod.mk.injEq] at h; obtain ⟨rfl, rfl⟩ := h; exact hq, fun h => ⟨1, _, _, rfl, h⟩⟩
theorem Zw (s : S) (Q : Ex → S → Prop) : WC P pr .ret s Q ↔ Q .ret s :=
  ⟨fun ⟨n, e, s', h, hq⟩ => by
    cases n with
    | zero => simp [evC] at h
    | succ n => simp only [evC, Option.some.injEq, Prod.mk.injEq] at h; obtain ⟨rfl, rfl⟩ := h; exact hq, fun h => ⟨1, _, _, rfl, h⟩⟩
theorem Zu (i : Nat) (s : S) (Q : Ex → S → Prop) : WC P pr (.exit i) s Q ↔ Q (.exit i) s :=
  ⟨fun ⟨n, e, s', h, hq⟩ => by
    cases n with
    | zero => simp [evC] at h
    | succ n => simp only [evC, Option.some.injEq, Prod.mk.injEq] at h; obtain ⟨rfl, rfl⟩ := h; exact hq, fun h => ⟨1, _, _, rfl, h⟩⟩

theorem Zx (a b : Code) (s : S) (Q : Ex → S → Prop) : WC P pr (.seq a b) s Q ↔ WC P pr a s (thenQ P pr b Q) := by
  constructor
  · rintro ⟨n, e, s', h, hq⟩
    cases n with
    | zero => simp [evC] at h
    | succ n =>
      rw [evC_seqE] at h
      split at h
      · rename_i s1 h1; exact ⟨n, .normal, s1, h1, n, e, s', h, hq⟩
      · rename_i hne
        refine ⟨n, e, s', h, ?_⟩
        cases e with
        | normal => exact (hne s' h).elim
        | exit i => exact hq
        | ret => exact hq
        | pan x => exact hq
  · rintro ⟨n, e, s', h, hq⟩
    cases e with
    | normal =>
      obtain ⟨m, e2, s2, h2, hq2⟩ := hq
      refine ⟨max n m + 1, e2, s2, ?_, hq2⟩
      rw [evC_seqE]
      simp only [evC_mono (Nat.le_max_left n m) h, evC_mono (Nat.le_max_right n m) h2]
    | exit i => exact ⟨n + 1, .exit i, s', by rw [evC_seqE]; simp only [h], hq⟩
    | ret => exact ⟨n + 1, .ret, s', by rw [evC_seqE]; simp only [h], hq⟩
    | pan x => exact ⟨n + 1, .pan x, s', by rw [evC_seqE]; simp only [h], hq⟩

theorem Zs (i : Nat) (c : Code) (s : S) (Q : Ex → S → Prop) : WC P pr (.block i c) s Q ↔ WC P pr c s (blockQ i Q) := by
  constructor
  · rintro ⟨n, e, s', h, hq⟩
    cases n with
    | zero => simp [evC] at h
    | succ n =>
      rw [evC_blockE] at h
      split at h
      · rename_i j s1 h1
        simp only [Option.some.injEq, Prod.mk.injEq] at h
        obtain ⟨rfl, rfl⟩ := h
        refine ⟨n, _, _, h1, ?_⟩
        simp only [blockQ]
        split
        · rename_i e; rw [if_pos e] at hq; exact hq
        · rename_i e; rw [if_neg e] at hq; exact hq
      · rename_i hne
        refine ⟨n, e, s', h, ?_⟩
        cases e with
        | normal => exact hq
        | exit j => exact (hne j s' h).elim
        | ret => exact hq
        | pan x => exact hq
  · rintro ⟨n, e, s', h, hq⟩
    cases e with
    | normal => exact ⟨n + 1, .normal, s', by rw [evC_blockE]; simp only [h], hq⟩
    | exit j =>
      refine ⟨n + 1, if j = i then .normal else .exit j, s', by rw [evC_blockE]; simp only [h], ?_⟩
      simp only [blockQ] at hq
      split
      · rename_i e; rw [if_pos e] at hq; exact hq
      · rename_i e; rw [if_neg e] at hq; exact hq
    | ret => exact ⟨n + 1, .ret, s', by rw [evC_blockE]; simp only [h], hq⟩
    | pan x => exact ⟨n + 1, .pan x, s', by rw [evC_blockE]; simp only [h], hq⟩

theorem Zt (c : Operand) (a b : Code) (s : S) (Q : Ex → S → Prop) : WC P pr (.cond c a b) s Q ↔ condQ (litBool (s.ev c)) (WC P pr a s Q) (WC P pr b s Q) := by
  constructor
  · rintro ⟨n, e, s', h, hq⟩
    cases n with
    | zero => simp [evC] at h
    | succ n =>
      rw [evC_condE] at h
      split at h
      · rename_i hc; rw [hc]; exact ⟨n, e, s', h, hq⟩
      · rename_i hc; rw [hc]; exact ⟨n, e, s', h, hq⟩
      · cases h
  · intro h
    cases hc : litBool (s.ev c) with
    | none => rw [hc] at h; exact h.elim
    | some t =>
      rw [hc] at h
      cases t with
      | true => obtain ⟨n, e, s', h, hq⟩ := h; exact ⟨n + 1, e, s', by rw [evC_condE]; simp only [hc, h], hq⟩
      | false => obtain ⟨n, e, s', h, hq⟩ := h; exact ⟨n + 1, e, s', by rw [evC_condE]; simp only [hc, h], hq⟩

theorem WC_region (id : Nat) (ops : Array Oper) (draw : Bool) (s : S) (Q : Ex → S → Prop) : WC P pr (.region id ops draw) s Q ↔ WO P pr draw ops 0 ops.toList s (regQ Q) := by
  constructor
  · rintro ⟨n, e, s', h, hq⟩
    cases n with
    | zero => simp [evC] at h
    | succ n =>
      rw [evC_regionE] at h
      split at h
      · rename_i s1 h1
        simp only [Option.some.injEq, Prod.mk.injEq] at h
        obtain ⟨rfl, rfl⟩ := h
        exact ⟨n, none, s1, h1, hq⟩
      · rename_i x s1 h1
        simp only [Option.some.injEq, Prod.mk.injEq] at h
        obtain ⟨rfl, rfl⟩ := h
        exact ⟨n, some x, s1, h1, hq⟩
      · cases h
  · rintro ⟨n, e, s1, h1, hq⟩
    cases e with
    | none =>
      refine ⟨n + 1, .normal, _, ?_, hq⟩
      unfold enN at h1
      rw [evC_regionE]
      simp only [h1]
    | some x =>
      refine ⟨n + 1, .pan x, _, ?_, hq⟩
      unfold enN at h1
      rw [evC_regionE]
      simp only [h1]

/-- A loop, one round at a time. -/
theorem WC_loop (c : Code) (s : S) (Q : Ex → S → Prop) : WC P pr (.loop c) s Q ↔ WC P pr c s (thenQ P pr (.loop c) Q) := by
  constructor
  · rintro ⟨n, e, s', h, hq⟩
    cases n with
    | zero => simp [evC] at h
    | succ n =>
      rw [evC_loopE] at h
      split at h
      · rename_i s1 h1; exact ⟨n, .normal, s1, h1, n, e, s', h, hq⟩
      · rename_i hne
        refine ⟨n, e, s', h, ?_⟩
        cases e with
        | normal => exact (hne s' h).elim
        | exit i => exact hq
        | ret => exact hq
        | pan x => exact hq
  · rintro ⟨n, e, s', h, hq⟩
    cases e with
    | normal =>
      obtain ⟨m, e2, s2, h2, hq2⟩ := hq
      refine ⟨max n m + 1, e2, s2, ?_, hq2⟩
      rw [evC_loopE]
      simp only [evC_mono (Nat.le_max_left n m) h, evC_mono (Nat.le_max_right n m) h2]
    | exit i => exact ⟨n + 1, .exit i, s', by rw [evC_loopE]; simp only [h], hq⟩
    | ret => exact ⟨n + 1, .ret, s', by rw [evC_loopE]; simp only [h], hq⟩
    | pan x => exact ⟨n + 1, .pan x, s', by rw [evC_loopE]; simp only [h], hq⟩

/-- A loop, by an invariant: I m: m rounds are left at the most. -/
theorem WC_inv (c : Code) (Q : Ex → S → Prop) (I : Nat → S → Prop) (h : ∀ m s, I m s → WC P pr c s (fun e s' => match e with
    | .normal => ∃ m', m' < m ∧ I m' s'
    | .exit i => Q (.exit i) s'
    | .ret => Q .ret s'
    | .pan x => Q (.pan x) s')) : ∀ (m : Nat) (s : S), I m s → WC P pr (.loop c) s Q := by
  intro m
  induction m using Nat.strongRecOn with
  | _ m ih =>
    intro s hs
    rw [WC_loop]
    obtain ⟨n, e, s', h1, hq⟩ := h m s hs
    refine ⟨n, e, s', h1, ?_⟩
    cases e with
    | normal => obtain ⟨m', hm, hI⟩ := hq; exact ih m' hm s' hI
    | exit i => exact hq
    | ret => exact hq
    | pan x => exact hq

theorem WC.mono {c : Code} {s : S} {Q Q' : Ex → S → Prop} (h : WC P pr c s Q) (hq : ∀ e s, Q e s → Q' e s) : WC P pr c s Q' :=
  let ⟨n, e, s', h1, h2⟩ := h; ⟨n, e, s', h1, hq _ _ h2⟩

theorem Z10 (dr : Bool) (ops : Array Oper) (k : Nat) (s : S) (Q : Option X → S → Prop) : WO P pr dr ops k [] s Q ↔ Q none s :=
  ⟨fun ⟨n, e, s', h, hq⟩ => by simp only [evOps, Option.some.injEq, Prod.mk.injEq] at h; obtain ⟨rfl, rfl⟩ := h; exact hq, fun h => ⟨0, none, s, rfl, h⟩⟩

theorem Zz (dr : Bool) (ops : Array Oper) (k : Nat) (o : Oper) (l : List Oper) (s : S) (Q : Option X → S → Prop) :
    WO P pr dr ops k (o :: l) s Q ↔ guardQ (guardOk ops s o) (SO P pr dr k o s (nextQ (fun s' => WO P pr dr ops (k + 1) l s' Q) Q)) (WO P pr dr ops (k + 1) l (s.put o.dst (.of .undef)) Q) := by
  constructor
  · rintro ⟨n, e, s', h, hq⟩
    simp only [evOps] at h
    cases hg : guardOk ops s o with
    | none => simp [stepG, hg] at h
    | some b =>
      cases b with
      | false =>
        simp only [stepG, hg] at h
        exact ⟨n, e, s', h, hq⟩
      | true =>
        simp only [stepG, hg] at h
        split at h
        · rename_i s1 h1; exact ⟨n, none, s1, h1, n, e, s', h, hq⟩
        · rename_i x s1 h1
          simp only [Option.some.injEq, Prod.mk.injEq] at h
          obtain ⟨rfl, rfl⟩ := h
          exact ⟨n, some x, s1, h1, hq⟩
        · cases h
  · intro h
    cases hg : guardOk ops s o with
    | none => rw [hg] at h; exact h.elim
    | some b =>
      rw [hg] at h
      cases b with
      | true =>
        obtain ⟨n, e1, s1, h1, h⟩ := h
        cases e1 with
        | none =>
          obtain ⟨m, e, s', h2, hq⟩ := h
          refine ⟨max n m, e, s', ?_, hq⟩
          simp only [evOps, stepG, hg, step_mono (enN_mono P pr (Nat.le_max_left n m)) h1]
          exact evOps_mono (enN_mono P pr (Nat.le_max_right n m)) _ _ _ h2
        | some x => exact ⟨n, some x, s1, by simp only [evOps, stepG, hg, h1], h⟩
      | false =>
        obtain ⟨n, e, s', h2, hq⟩ := h
        exact ⟨n, e, s', by simp only [evOps, stepG, hg]; exact h2, hq⟩

/-! ### One operation -/
def optQ (Q : S → Prop) : Option S → Prop
  | some s => Q s
  | none => False
/-- What is done with an operation's answer. -/
def outK (s : S) (d : Option Nat) (af : Array Edge) (K : S → Prop) : Out → Prop
  | none => False
  | some (x, none) => K (s.put d x)
  | some (x, some t) => okTk s.clk af.toList (some t) = true ∧ K ((s.drop (some t)).put d x)

theorem SO_val {dr : Bool} {k : Nat} {o : Oper} {s : S} {Q : Option X → S → Prop} (v : Out) (hst : ∀ E, step P (TT.of P) E dr s k o = stepV P (TT.of P) E s k o) (h : ∀ n, val P (TT.of P) (enN P pr n) s k o = v) : SO P pr dr k o s Q ↔ outK s o.dst o.after (Q none) v := by
  constructor
  · rintro ⟨n, e, s', h1, hq⟩
    rw [hst, stepV, h n] at h1
    split at h1
    · rename_i x t
      split at h1
      · rename_i hok
        simp only [Option.some.injEq, Prod.mk.injEq] at h1
        obtain ⟨rfl, rfl⟩ := h1
        cases t with
        | none => exact hq
        | some t => exact ⟨hok, hq⟩
      · cases h1
    · cases h1
  · intro hv
    match v, h, hv with
    | some (x, none), h, hv => exact ⟨0, none, _, by rw [hst, stepV, h 0]; simp only [okTk, if_true]; rfl, hv⟩
    | some (x, some t), h, hv => exact ⟨0, none, _, by rw [hst, stepV, h 0]; simp only [hv.1, if_true], hv.2⟩

section
variable (dr : Bool) (k : Nat) (d : Option Nat) (ty : Nat) (po : String) (af : Array Edge) (g : Option (Nat × Bool)) (s : S) (Q : Option X → S → Prop)

theorem Zl (x : Operand) : SO P pr dr k ⟨d, .move x, ty, po, af, g⟩ s Q ↔ Q none (s.put d (s.ev x)) := SO_val (out (s.ev x)) (fun _ => by cases dr <;> rfl) fun _ => rfl
theorem Z2 (x : Operand) : SO P pr dr k ⟨d, .assign x, ty, po, af, g⟩ s Q ↔ Q none (s.put d (s.ev x)) := SO_val (out (s.ev x)) (fun _ => by cases dr <;> rfl) fun _ => rfl

def pickO (s : S) (a b : Operand) : Option Bool → Out
  | some b' => out (if b' then s.ev a else s.ev b)
  | none => none
theorem Zo (c a b : Operand) : SO P pr dr k ⟨d, .pick c a b, ty, po, af, g⟩ s Q ↔ outK s d af (Q none) (pickO s a b (litBool (s.ev c))) :=
  SO_val _ (fun _ => by cases dr <;> rfl) fun _ => by simp only [val, pickO]; cases litBool (s.ev c) <;> rfl

theorem Z3 (op : BinOp) (t : Nat) (x y : Operand) (yt : Nat) : SO P pr dr k ⟨d, .binOp op t x y yt, ty, po, af, g⟩ s Q ↔ outK s d af (Q none) (binX P (TT.of P) t ((TT.of P t).map (·.und)) op (s.ev x) (s.ev y)) :=
  SO_val _ (fun _ => by cases dr <;> rfl) fun _ => rfl
def unX (op : UnOp) : X → Out
  | .of (.lit a) => outO ((unLit op a).map fun v => .of (.lit v))
  | _ => none
theorem Zr (op : UnOp) (t : Nat) (x : Operand) : SO P pr dr k ⟨d, .unOp op t x, ty, po, af, g⟩ s Q ↔ outK s d af (Q none) (unX op (s.ev x)) := SO_val _ (fun _ => by cases dr <;> rfl) fun _ => rfl
theorem Zg (t : Nat) (a : Operand) : SO P pr dr k ⟨d, .load t a, ty, po, af, g⟩ s Q ↔ outK s d af (Q none) (loadX (TT.of P) s.objs t (s.ev a)) := SO_val _ (fun _ => by cases dr <;> rfl) fun _ => rfl
theorem Zc (t : Nat) (x : Operand) (f : Nat) : SO P pr dr k ⟨d, .fieldAddr t x f, ty, po, af, g⟩ s Q ↔ outK s d af (Q none) (fieldAddrX (TT.of P) t f (s.ev x)) := SO_val _ (fun _ => by cases dr <;> rfl) fun _ => rfl
theorem Zb (t : Nat) (x : Operand) (f : Nat) : SO P pr dr k ⟨d, .field t x f, ty, po, af, g⟩ s Q ↔ outK s d af (Q none) (fieldX (TT.of P) t f (s.ev x)) := SO_val _ (fun _ => by cases dr <;> rfl) fun _ => rfl
theorem Ze (t : Nat) (x i : Operand) : SO P pr dr k ⟨d, .indexAddr t x i, ty, po, af, g⟩ s Q ↔ outK s d af (Q none) (indexAddrX (TT.of P) t (s.ev x) (s.ev i)) := SO_val _ (fun _ => by cases dr <;> rfl) fun _ => rfl
theorem Zd (t : Nat) (x i : Operand) : SO P pr dr k ⟨d, .index t x i, ty, po, af, g⟩ s Q ↔ outK s d af (Q none) (indexX (TT.of P) t (s.ev x) (s.ev i)) := SO_val _ (fun _ => by cases dr <;> rfl) fun _ => rfl
theorem Zp (t : Nat) (x : Operand) (lo hi : Option Operand) : SO P pr dr k ⟨d, .slice t x lo hi none, ty, po, af, g⟩ s Q ↔ outK s d af (Q none) (sliceX (TT.of P) t (s.ev x) (lo.map s.ev) (hi.map s.ev)) := SO_val _ (fun _ => by cases dr <;> rfl) fun _ => rfl
theorem Z9 (a b : Nat) (x : Operand) : SO P pr dr k ⟨d, .convert a b x, ty, po, af, g⟩ s Q ↔ outK s d af (Q none) (convertX (TT.of P) a b (s.ev x)) := SO_val _ (fun _ => by cases dr <;> rfl) fun _ => rfl

def extractX (i : Nat) : X → Out
  | .tup xs => outO (xs[i]?)
  | .of (.tup cs) => outO ((cs[i]?).map .of)
  | _ => none
theorem Za (x : Operand) (i : Nat) : SO P pr dr k ⟨d, .extract x i, ty, po, af, g⟩ s Q ↔ outK s d af (Q none) (extractX i (s.ev x)) := SO_val _ (fun _ => by cases dr <;> rfl) fun _ => rfl
def nilX : X → Out
  | .ptr r off => out (.ptr r off)
  | .of (.ref cs) => out (.of (.ref cs))
  | _ => none
theorem Zm (x : Operand) : SO P pr dr k ⟨d, .nilCheck x, ty, po, af, g⟩ s Q ↔ outK s d af (Q none) (nilX (s.ev x)) := SO_val _ (fun _ => by cases dr <;> rfl) fun _ => rfl
def fnX (f : Nat) : Option (List C) → Out
  | some cs => out (.of (.fn f cs))
  | none => none
theorem Zi (f : Nat) (caps : Array Operand) : SO P pr dr k ⟨d, .makeFunc (.func f) #[] caps, ty, po, af, g⟩ s Q ↔ outK s d af (Q none) (fnX f (rdAll s.ev caps.toList)) := SO_val _ (fun _ => by cases dr <;> rfl) fun _ => rfl

def buildX (P : Program) (t : Nat) : Option TD → Option (List (Nat × List X)) → Out
  | some d, some qs => match d.und with
    | .struct _ => outO ((fillX (fun i => d.fields[i]?) (zeroX d) qs).map .agg)
    | .array _ e => match TT.of P e with
      | some de => outO ((fillX (fun i => some (i * de.size, de.size)) (zeroX d) qs).map .agg)
      | none => none
    | _ => none
  | _, _ => none
theorem Z5 (t : Nat) (ps : Array (Nat × Operand)) : SO P pr dr k ⟨d, .build t ps, ty, po, af, g⟩ s Q ↔ outK s d af (Q none) (buildX P t (TT.of P t) (partsX s.ev ps.toList)) :=
  SO_val _ (fun _ => by cases dr <;> rfl) fun _ => by simp only [val, buildX]; cases TT.of P t <;> cases partsX s.ev ps.toList <;> rfl
def buildSliceX (t : Tk) (n : Nat) : Option (Nat × TD) → Option (List (Nat × List X)) → Out
  | some (e, d), some qs =>
    if n * d.size ≤ 16777216 ∧ 0 < d.size ∧ d.zero.length = d.size then match fillX (fun i => some (i * d.size, d.size)) ((List.replicate n (zeroX d)).flatten) qs with
      | some xs => match X.rds xs with
        | some cs => out (.own t e d.size cs n)
        | none => none
      | none => none
    else none
  | _, _ => none
theorem Z6 (t n : Nat) (ps : Array (Nat × Operand)) : SO P pr dr k ⟨d, .buildSlice t n ps, ty, po, af, g⟩ s Q ↔ outK s d af (Q none) (buildSliceX (.nm s.clk k 0) n (elemOf (TT.of P) t) (partsX s.ev ps.toList)) :=
  SO_val _ (fun _ => by cases dr <;> rfl) fun _ => by simp only [val, buildSliceX]; cases elemOf (TT.of P) t <;> cases partsX s.ev ps.toList <;> rfl
theorem Zf (x : Operand) (t : Nat) : SO P pr dr k ⟨d, .call { callee := .builtin .len, args := #[x], argTypes := #[t] }, ty, po, af, g⟩ s Q ↔ outK s d af (Q none) (lenX ((TT.of P t).map (·.und)) (s.ev x)) := SO_val _ (fun _ => by cases dr <;> rfl) fun _ => rfl
theorem Z1 (a b : Operand) (st xt : Nat) : SO P pr dr k ⟨d, .call { callee := .builtin .append, args := #[a, b], argTypes := #[st, xt] }, ty, po, af, g⟩ s Q ↔ outK s d af (Q none) (appendX (TT.of P) (.nm s.clk k 0) st xt (s.ev a) (s.ev b)) := SO_val _ (fun _ => by cases dr <;> rfl) fun _ => rfl

def ifcX (t : Nat) : Bool → Option C → Out
  | true, some c => out (.of (.ifc t c))
  | _, _ => none
theorem Zj (t : Nat) (x : Operand) : SO P pr dr k ⟨d, .makeInterface t x, ty, po, af, g⟩ s Q ↔ outK s d af (Q none) (ifcX t (ifcD ((TT.of P t).map (·.und))) (s.ev x).rd) :=
  SO_val _ (fun _ => by cases dr <;> rfl) fun _ => by simp only [val, ifcX]; cases ifcD ((TT.of P t).map (·.und)) <;> cases (s.ev x).rd <;> rfl

/-- A call on plain data. -/
def plainK (s : S) (k : Nat) (d : Option Nat) (Q : Option X → S → Prop) : An → Prop
  | ⟨false, rs, []⟩ => Q none (s.put d (oneX (nameX s.clk k rs)))
  | _ => False
def plainQ (P : Program) (pr : Pr) (s : S) (k : Nat) (d : Option Nat) (Q : Option X → S → Prop) (f : Nat) (caps : List C) : Option (List C) → Prop
  | some cs => callable P f = true ∧ CallK P pr f ((cs ++ caps).map .of) [] (plainK s k d Q)
  | none => False
/-- A call that takes or gives objects. -/
def back2 (Q : Option X → S → Prop) : Option (Option X × S) → Prop
  | some (e, s) => Q e s
  | none => False
def backQ (s : S) (k : Nat) (d : Option Nat) (refs : List Nat) (ts : List Tk) (Q : Option X → S → Prop) (an : An) : Prop := back2 Q (backS s k d refs ts an)
def objQ2 (P : Program) (pr : Pr) (s : S) (k : Nat) (d : Option Nat) (refs : List Nat) (ts : List Tk) (Q : Option X → S → Prop) (f : Nat) (us : List X) : Option (List Ob) → Prop
  | some obs => callable P f = true ∧ CallK P pr f (X.trs (pos refs) (rhoIn refs ts) us) obs (backQ s k d refs ts Q)
  | none => False
def objQ1 (P : Program) (pr : Pr) (s : S) (k : Nat) (d : Option Nat) (Q : Option X → S → Prop) (f : Nat) (us : List X) (refs : List Nat) (ts : List Tk) : Prop :=
  objQ2 P pr s k d refs ts Q f us (pickObs (pos refs) (rhoIn refs ts) (dropTs ts s.objs) refs)
def toksB (b : Bool) (us : List X) : List Tk := match b with
  | true => nub (X.toksL us) []
  | false => []
def callB (P : Program) (pr : Pr) (dr : Bool) (s : S) (k : Nat) (d : Option Nat) (Q : Option X → S → Prop) (f : Nat) (us : List X) (caps : List C) (cs : Option (List C)) : Bool → Prop
  | true => dr = false ∧ objQ1 P pr s k d Q f us (reach s.objs 999 (X.refsL us) []) (toksB (pr.tk f) us)
  | false => plainQ P pr s k d Q f caps cs
def callT (P : Program) (pr : Pr) (dr : Bool) (s : S) (k : Nat) (d : Option Nat) (Q : Option X → S → Prop) (args : List X) (cs : Option (List C)) : X → Prop
  | .of (.fn f caps) => callB P pr dr s k d Q f (args ++ caps.map .of) caps cs (pr.obj f)
  | .clo f caps => pr.obj f = true ∧ dr = false ∧ objQ1 P pr s k d Q f (args ++ caps) (reach s.objs 999 (X.refsL (args ++ caps)) []) (toksB (pr.tk f) (args ++ caps))
  | _ => False

theorem callS_eq (n : Nat) (f : Nat) (us : List X) : (∃ e s', callS P (enN P pr n) s k d f us = some (e, s') ∧ Q e s') → objQ1 P pr s k d Q f us (reach s.objs 999 (X.refsL us) []) (toksB (pr.tk f) us) := by
  rintro ⟨e, s', h, hq⟩
  unfold callS at h
  split at h
  rotate_left
  · cases h
  rename_i hc
  simp only at h
  have ht : (if (enN P pr n).tk f = true then nub (X.toksL us) [] else []) = toksB (pr.tk f) us := by
    show (if pr.tk f = true then _ else _) = _
    cases pr.tk f <;> rfl
  rw [ht] at h
  unfold objQ1
  split at h
  · rename_i obs hobs
    rw [hobs]
    split at h
    · rename_i an han
      refine ⟨hc, an, ⟨n, han⟩, ?_⟩
      unfold backQ
      rw [h]
      exact hq
    · cases h
  · cases h
theorem callS_of (f : Nat) (us : List X) (h : objQ1 P pr s k d Q f us (reach s.objs 999 (X.refsL us) []) (toksB (pr.tk f) us)) : ∃ n e s', callS P (enN P pr n) s k d f us = some (e, s') ∧ Q e s' := by
  unfold objQ1 at h
  cases hobs : pickObs (pos (reach s.objs 999 (X.refsL us) [])) (rhoIn (reach s.objs 999 (X.refsL us) []) (toksB (pr.tk f) us)) (dropTs (toksB (pr.tk f) us) s.objs) (reach s.objs 999 (X.refsL us) []) with
  | none => rw [hobs] at h; exact h.elim
  | some obs =>
    rw [hobs] at h
    obtain ⟨hc, an, ⟨n, han⟩, hb⟩ := h
    unfold backQ at hb
    cases hbs : backS s k d (reach s.objs 999 (X.refsL us) []) (toksB (pr.tk f) us) an with
    | none => rw [hbs] at hb; exact hb.elim
    | some p =>
      obtain ⟨e, s'⟩ := p
      rw [hbs] at hb
      refine ⟨n, e, s', ?_, hb⟩
      unfold callS
      rw [if_pos hc]
      have ht : (if (enN P pr n).tk f = true then nub (X.toksL us) [] else []) = toksB (pr.tk f) us := by
        show (if pr.tk f = true then _ else _) = _
        cases pr.tk f <;> rfl
      simp only [ht, hobs, han, hbs]

theorem stepV_call (n : Nat) (f : Operand) (args : Array Operand) (tys : Array Nat) : stepV P (TT.of P) (enN P pr n) s k ⟨d, .call { callee := .value f, args := args, argTypes := tys }, ty, po, af, g⟩ = match s.ev f, rdAll s.ev args.toList with
    | .of (.fn f caps), some cs => (match callX P (enN P pr n) s.clk k f (cs ++ caps) with
      | some (x, t) => if okTk s.clk af.toList t = true then some (none, (s.drop t).put d x) else none
      | none => none)
    | _, _ => none := by
  simp only [stepV, val, valCall]
  split <;> rename_i h <;> split at h <;> simp_all

theorem plain_iff (f : Operand) (fn : Nat) (caps : List C) (args : Array Operand) (tys : Array Nat) (hf : s.ev f = .of (.fn fn caps)) (ho : pr.obj fn = false) :
    (∃ n e s', stepV P (TT.of P) (enN P pr n) s k ⟨d, .call { callee := .value f, args := args, argTypes := tys }, ty, po, af, g⟩ = some (e, s') ∧ Q e s') ↔ plainQ P pr s k d Q fn caps (rdAll s.ev args.toList) := by
  constructor
  · rintro ⟨n, e, s', h, hq⟩
    rw [stepV_call, hf] at h
    cases hr : rdAll s.ev args.toList with
    | none => rw [hr] at h; cases h
    | some cs =>
      rw [hr] at h
      simp only at h
      split at h
      · rename_i x t hx
        unfold callX at hx
        split at hx
        · rename_i hc
          simp only [Bool.and_eq_true] at hc
          split at hx
          · rename_i rs hor
            obtain ⟨rfl, rfl⟩ := out_inv hx
            simp only [okTk, if_true, Option.some.injEq, Prod.mk.injEq] at h
            obtain ⟨rfl, rfl⟩ := h
            exact ⟨hc.1, _, ⟨n, hor⟩, hq⟩
          · cases hx
        · cases hx
      · cases h
  · intro h
    cases hr : rdAll s.ev args.toList with
    | none => rw [hr] at h; exact h.elim
    | some cs =>
      rw [hr] at h
      obtain ⟨hc, an, ⟨n, hor⟩, hk⟩ := h
      match an, hor, hk with
      | ⟨false, rs, []⟩, hor, hk =>
        refine ⟨n, none, _, ?_, hk⟩
        rw [stepV_call, hf, hr]
        have : callX P (enN P pr n) s.clk k fn (cs ++ caps) = out (oneX (nameX s.clk k rs)) := by
          unfold callX
          have ho' : (enN P pr n).obj fn = false := ho
          rw [if_pos (by simp [hc, ho']), hor]
        simp only [this, out, okTk, if_true]
        rfl

/-- A call of a function value. -/
theorem SO_callV (f : Operand) (args : Array Operand) (tys : Array Nat) : SO P pr dr k ⟨d, .call { callee := .value f, args := args, argTypes := tys }, ty, po, af, g⟩ s Q ↔
    callT P pr dr s k d Q (args.toList.map s.ev) (rdAll s.ev args.toList) (s.ev f) := by
  have hst : ∀ n, step P (TT.of P) (enN P pr n) dr s k ⟨d, .call { callee := .value f, args := args, argTypes := tys }, ty, po, af, g⟩ = if dr = true then stepV P (TT.of P) (enN P pr n) s k ⟨d, .call { callee := .value f, args := args, argTypes := tys }, ty, po, af, g⟩ else
      match target s (.value f) args.toList with
      | some (g', us) => if pr.obj g' = true then callS P (enN P pr n) s k d g' us else stepV P (TT.of P) (enN P pr n) s k ⟨d, .call { callee := .value f, args := args, argTypes := tys }, ty, po, af, g⟩
      | none => none := fun n => by
    unfold step
    rfl
  have hV : ∀ (x : X), s.ev f = x → (∀ fn caps, x ≠ .of (.fn fn caps)) → ∀ n, stepV P (TT.of P) (enN P pr n) s k ⟨d, .call { callee := .value f, args := args, argTypes := tys }, ty, po, af, g⟩ = none := fun x hx hne n => by
    rw [stepV_call, hx]
    split
    · rename_i h; exact (hne _ _ rfl).elim
    · rfl
  unfold SO
  simp only [hst]
  cases hf : s.ev f with
  | of c =>
    cases c with
    | fn fn caps =>
      simp only [callT, target, hf]
      cases ho : pr.obj fn with
      | true =>
        simp only [callB]
        cases dr with
        | true =>
          simp only [if_true, Bool.true_eq_false, false_and, iff_false]
          rintro ⟨n, e, s', h, _⟩
          rw [stepV_call, hf] at h
          cases hr : rdAll s.ev args.toList with
          | none => rw [hr] at h; cases h
          | some cs =>
            rw [hr] at h
            have : callX P (enN P pr n) s.clk k fn (cs ++ caps) = none := by
              unfold callX
              have ho' : (enN P pr n).obj fn = true := ho
              rw [if_neg (by simp [ho'])]
            simp [this] at h
        | false =>
          simp only [Bool.false_eq_true, if_false, if_true, true_and]
          constructor
          · rintro ⟨n, e, s', h, hq⟩; exact callS_eq k d s Q n fn _ ⟨e, s', h, hq⟩
          · intro h; exact callS_of k d s Q fn _ h
      | false =>
        simp only [callB]
        rw [← plain_iff k d ty po af g s Q f fn caps args tys hf ho]
        cases dr with
        | true => simp only [if_true]
        | false => simp only [Bool.false_eq_true, if_false]
    | _ =>
      simp only [callT, iff_false]
      rintro ⟨n, e, s', h, _⟩
      rw [hV _ hf (fun _ _ e => by cases e) n] at h
      simp [target, hf] at h
  | clo fn caps =>
    simp only [callT, target, hf]
    have hn := hV _ hf (fun _ _ e => by cases e)
    cases dr with
    | true =>
      simp only [if_true, Bool.true_eq_false, false_and, and_false, iff_false]
      rintro ⟨n, e, s', h, _⟩
      rw [hn] at h
      cases h
    | false =>
      simp only [Bool.false_eq_true, if_false, true_and]
      cases ho : pr.obj fn with
      | true =>
        simp only [if_true, true_and]
        constructor
        · rintro ⟨n, e, s', h, hq⟩; exact callS_eq k d s Q n fn _ ⟨e, s', h, hq⟩
        · intro h; exact callS_of k d s Q fn _ h
      | false =>
        simp only [Bool.false_eq_true, if_false, false_and, iff_false]
        rintro ⟨n, e, s', h, _⟩
        rw [hn] at h
        cases h
  | _ =>
    simp only [callT, iff_false]
    rintro ⟨n, e, s', h, _⟩
    rw [hV _ hf (fun _ _ e => by cases e) n] at h
    simp [target, hf] at h

/-- A call of a function. -/
theorem Z7 (f : Nat) (args : Array Operand) (tys : Array Nat) : SO P pr dr k ⟨d, .call { callee := .value (.func f), args := args, argTypes := tys }, ty, po, af, g⟩ s Q ↔
    callB P pr dr s k d Q f (args.toList.map s.ev) [] (rdAll s.ev args.toList) (pr.obj f) := by
  rw [SO_callV]
  simp only [S.ev, callT, List.map_nil, List.append_nil]

/-- A call of a function value in a slot. -/
theorem Z8 (t : Nat) (args : Array Operand) (tys : Array Nat) : SO P pr dr k ⟨d, .call { callee := .value (.tmp t), args := args, argTypes := tys }, ty, po, af, g⟩ s Q ↔
    callT P pr dr s k d Q (args.toList.map s.ev) (rdAll s.ev args.toList) (s.fr t) := SO_callV dr k d ty po af g s Q (.tmp t) args tys

theorem Zh (t : Nat) (x i : Operand) (ok : Bool) : SO P pr dr k ⟨d, .lookup t x i ok, ty, po, af, g⟩ s Q ↔ outK s d af (Q none) (lookupX (TT.of P) s.objs t (s.ev x) (s.ev i) ok) := SO_val _ (fun _ => by cases dr <;> rfl) fun _ => rfl

/-! objects -/
theorem SO_step {o : Oper} (v : Option S) (h : ∀ n, step P (TT.of P) (enN P pr n) false s k o = v.map fun s => (none, s)) : SO P pr false k o s Q ↔ optQ (Q none) v := by
  unfold SO
  simp only [h]
  cases v with
  | none => simp [optQ]
  | some s' =>
    constructor
    · rintro ⟨n, e, s1, h1, h2⟩
      simp only [Option.map_some, Option.some.injEq, Prod.mk.injEq] at h1
      obtain ⟨rfl, rfl⟩ := h1
      exact h2
    · intro h1
      exact ⟨0, none, s', rfl, h1⟩

def allocO (s : S) (d : Option Nat) (ty : Nat) : Option (List X) → Option S
  | some xs => some (allocS s d ty xs)
  | none => none
theorem Z0 (t : Nat) : SO P pr false k ⟨d, .alloc t, ty, po, af, g⟩ s Q ↔ optQ (Q none) (allocO s d t ((TT.of P t).map zeroX)) :=
  SO_step k s Q _ fun n => by
    simp only [step, Bool.false_eq_true, if_false]
    cases TT.of P t <;> rfl
def boxO : Option TD → Option (List X) → Option (List X)
  | some d, some xs => if xs.length = d.size then some xs else none
  | _, _ => none
theorem Z4 (t : Nat) (x : Operand) : SO P pr false k ⟨d, .box t x, ty, po, af, g⟩ s Q ↔ optQ (Q none) (allocO s d t (boxO (TT.of P t) (cellsX (s.ev x)))) :=
  SO_step k s Q _ fun n => by
    simp only [step, Bool.false_eq_true, if_false]
    cases TT.of P t with
    | none => rfl
    | some td =>
      cases cellsX (s.ev x) with
      | none => rfl
      | some xs => simp only [boxO]; split <;> rfl
def storeO (s : S) (d : Option Nat) : Option TD → X → Option (List X) → Option S
  | some td, .ptr r off, some xs => storeS s d td.size r off xs
  | _, _, _ => none
theorem Zq (t : Nat) (a x : Operand) : SO P pr false k ⟨d, .store t a x, ty, po, af, g⟩ s Q ↔ optQ (Q none) (storeO s d (TT.of P t) (s.ev a) (cellsX (s.ev x))) :=
  SO_step k s Q _ fun n => by
    simp only [step, Bool.false_eq_true, if_false, storeO]
    cases TT.of P t with
    | none => rfl
    | some td =>
      cases s.ev a <;> cases cellsX (s.ev x) <;> rfl
/-! maps -/
theorem Zk (t : Nat) : SO P pr false k ⟨d, .makeMap t none, ty, po, af, g⟩ s Q ↔ Q none ({ s with objs := s.objs ++ [Ob.map []] }.put d (.mp s.objs.length)) :=
  SO_step k s Q (some _) fun n => rfl
def obMap : Option Ob → Option (List (Value × C))
  | some (.map es) => some es
  | _ => none
def putO (kind : TypeDesc) (kv : Option Value) (c : Option C) (es : Option (List (Value × C))) : Option (List (Value × C)) := match kv, c, es with
  | some kv, some c, some es => putX kind kv c es
  | _, _, _ => none
def updO (s : S) (d : Option Nat) (x : X) (r : Nat) : Option (List (Value × C)) → Option S
  | some es => some ({ s with objs := s.objs.set r (Ob.map es) }.put d x)
  | none => none
def mapUpdO (s : S) (d : Option Nat) (x : X) : X → (Nat → Option (List (Value × C))) → Option S
  | .mp r, F => updO s d x r (F r)
  | _, _ => none
theorem SO_mapUpdate {kind : TypeDesc} {et : Nat} (t : Nat) (m kx x : Operand) (ht : mapTy (TT.of P) t = some (kind, et)) : SO P pr false k ⟨d, .mapUpdate t m kx x, ty, po, af, g⟩ s Q ↔
    optQ (Q none) (mapUpdO s d (.of .undef) (s.ev m) fun r => putO kind (litOf (s.ev kx)) (s.ev x).rd (obMap (s.objs[r]?))) :=
  SO_step k s Q _ fun n => by
    simp only [step, Bool.false_eq_true, if_false, ht]
    cases s.ev m with
    | mp r =>
      simp only [mapUpdO]
      cases litOf (s.ev kx) with
      | none => rfl
      | some kv =>
        cases (s.ev x).rd with
        | none => rfl
        | some c =>
          cases hr : s.objs[r]? with
          | none => simp only [hr]; rfl
          | some ob =>
            cases ob with
            | var _ _ => simp only [hr]; rfl
            | map es => simp only [hr, obMap, putO, updO]; cases putX kind kv c es <;> rfl
    | _ => rfl
def delO (kind : TypeDesc) (kv : Option Value) (es : Option (List (Value × C))) : Option (List (Value × C)) := match kv, es with
  | some kv, some es => delX kind kv es
  | _, _ => none
theorem SO_delete {kind : TypeDesc} {et : Nat} (t t2 : Nat) (m kx : Operand) (ht : mapTy (TT.of P) t = some (kind, et)) : SO P pr false k ⟨d, .call { callee := .builtin .delete, args := #[m, kx], argTypes := #[t, t2] }, ty, po, af, g⟩ s Q ↔
    optQ (Q none) (mapUpdO s d (.tup []) (s.ev m) fun r => delO kind (litOf (s.ev kx)) (obMap (s.objs[r]?))) :=
  SO_step k s Q _ fun n => by
    simp only [step, Bool.false_eq_true, if_false, ht]
    cases s.ev m with
    | mp r =>
      simp only [mapUpdO]
      cases litOf (s.ev kx) with
      | none => rfl
      | some kv =>
        cases hr : s.objs[r]? with
        | none => simp only [hr]; rfl
        | some ob =>
          cases ob with
          | var _ _ => simp only [hr]; rfl
          | map es => simp only [hr, obMap, delO, updO]; cases delX kind kv es <;> rfl
    | _ => rfl
/-! panics -/
def panQ (Q : Option X → S → Prop) (s : S) : Option C → Prop
  | some (.ifc t c) => Q (some (.of (.ifc t c))) s
  | _ => False
theorem Zn (x : Operand) : SO P pr false k ⟨d, .panic x, ty, po, af, g⟩ s Q ↔ panQ Q s (s.ev x).rd := by
  have h : ∀ n, step P (TT.of P) (enN P pr n) false s k ⟨d, .panic x, ty, po, af, g⟩ = match (s.ev x).rd with
    | some (.ifc t c) => some (some (.of (.ifc t c)), s)
    | _ => none := fun n => rfl
  unfold SO
  simp only [h]
  cases (s.ev x).rd with
  | none => simp [panQ]
  | some c =>
    cases c with
    | ifc t c =>
      simp only [panQ]
      exact ⟨fun ⟨n, e, s1, h1, h2⟩ => by
        simp only [Option.some.injEq, Prod.mk.injEq] at h1
        obtain ⟨rfl, rfl⟩ := h1
        exact h2, fun h1 => ⟨0, _, s, rfl, h1⟩⟩
    | _ => simp [panQ]
end

/-- A function's answer, by its body. -/
def endQ (P : Program) (f m : Nat) (an : An) : Ex → S → Prop
  | .normal, s => ((resXs (TT.of P) s (resVars P f)).bind fun rs => leave m false rs s.objs) = some an
  | .ret, s => ((resXs (TT.of P) s (resVars P f)).bind fun rs => leave m false rs s.objs) = some an
  | .pan x, s => leave m true [x] s.objs = some an
  | .exit _, _ => False

theorem Gives.of_body {f : Nat} {xs : List X} {obs : List Ob} {an : An} (hp : pr.prim f xs obs = none) (hok : fnOk P f = true) (har : xs.length ≤ arity P f) (h : WC P pr (bodyOf P f) (initS xs obs) (endQ P f obs.length an)) : Gives P pr f xs obs an := by
  obtain ⟨n, e, s', h1, hq⟩ := h
  refine ⟨n, ?_⟩
  unfold enN enOf orcOf callOf
  simp only
  rw [hp]
  simp only [hok, har, and_self, if_true, h1]
  cases e with
  | normal => exact hq
  | ret => exact hq
  | pan x => exact hq
  | exit i => exact hq.elim

theorem Gives.of_prim {f : Nat} {xs : List X} {obs : List Ob} {an : An} (hp : pr.prim f xs obs = some an) : Gives P pr f xs obs an := ⟨0, by unfold enN enOf orcOf; simp only; rw [hp]⟩

/-- What is told of a call holds of the program. -/
theorem Gives.sound (hm : P.follows .mixedOrders = true) {G : GP} (hpr : PrSound P G pr) {f : Nat} {xs : List X} {obs : List Ob} {an : An} (h : Gives P pr f xs obs an) : Sound P G f xs obs an := by
  obtain ⟨n, hn⟩ := h
  exact (en_of_code hpr (code_sound hm hpr n)).orc f xs obs an hn
end
end Go.Pe

/-
  The machine's rules, in two bundles. Conditions: none.
-/
import Derived.Test.YtcmgabicladmlaaDoorPb4
namespace Go.Pe

def Orc.le (a b : Orc) : Prop := ∀ f xs obs an, a f xs obs = some an → b f xs obs = some an
structure En.le (a b : En) : Prop where
  orc : Orc.le a.orc b.orc
  obj : a.obj = b.obj
  tk : a.tk = b.tk

theorem callX_mono {P : Program} {E E' : En} (h : En.le E E') {clk ix f : Nat} {cs : List C} {y : X × Option Tk} (hv : callX P E clk ix f cs = some y) : callX P E' clk ix f cs = some y := by
  unfold callX at *
  rw [← h.obj]
  split at hv
  · rename_i hc
    rw [if_pos hc]
    split at hv
    · rename_i rs hr
      rw [h.orc _ _ _ _ hr]
      exact hv
    · cases hv
  · cases hv

theorem val_mono {P : Program} {T : TT} {E E' : En} (h : En.le E E') {s : S} {ix : Nat} {o : Oper} {y : X × Option Tk} (hv : val P T E s ix o = some y) : val P T E' s ix o = some y := by
  unfold val at *
  split at hv <;> (try exact hv)
  unfold valCall at *
  split at hv
  · exact hv
  · exact hv
  · exact hv
  · split at hv
    · exact callX_mono h hv
    · cases hv
  · cases hv

theorem stepV_mono {P : Program} {T : TT} {E E' : En} (h : En.le E E') {s : S} {ix : Nat} {o : Oper} {y : Option X × S} (hv : stepV P T E s ix o = some y) : stepV P T E' s ix o = some y := by
  unfold stepV at *
  split at hv
  · rename_i x t hx
    rw [val_mono h hx]
    exact hv
  · cases hv

theorem step_mono {P : Program} {T : TT} {E E' : En} (h : En.le E E') {dr : Bool} {s : S} {ix : Nat} {o : Oper} {y : Option X × S} (hv : step P T E dr s ix o = some y) : step P T E' dr s ix o = some y := by
  unfold step at *
  split at hv
  · rename_i hd
    rw [if_pos hd]
    exact stepV_mono h hv
  · rename_i hd
    rw [if_neg hd]
    split at hv
    · exact hv
    · exact hv
    · exact hv
    · exact hv
    · exact hv
    · exact hv
    · exact hv
    · exact hv
    · split at hv
      · rename_i g us htg
        rw [← h.obj]
        split at hv
        · rename_i ho
          rw [if_pos ho]
          unfold callS at *
          rw [← h.tk]
          split at hv
          · rename_i hc
            rw [if_pos hc]
            simp only at hv ⊢
            split at hv
            · rename_i obs hobs
              split at hv
              · rename_i an han
                rw [h.orc _ _ _ _ han]
                exact hv
              · cases hv
            · cases hv
          · cases hv
        · rename_i ho
          rw [if_neg ho]
          exact stepV_mono h hv
      · cases hv
    · exact stepV_mono h hv

theorem evOps_mono {P : Program} {T : TT} {E E' : En} (h : En.le E E') {dr : Bool} {ops : Array Oper} {y : Option X × S} : ∀ (l : List Oper) (n : Nat) (s : S), evOps P T E dr ops n l s = some y → evOps P T E' dr ops n l s = some y
  | [], _, _, hv => hv
  | o :: l, n, s, hv => by
    have hst : ∀ z, stepG P T E dr ops s n o = some z → stepG P T E' dr ops s n o = some z := fun z h1 => by
      unfold stepG at *
      split at h1
      · exact step_mono h h1
      · exact h1
      · cases h1
    simp only [evOps] at hv ⊢
    split at hv
    · rename_i s1 h1
      rw [hst _ h1]
      exact evOps_mono h l _ _ hv
    · rename_i x s1 h1
      rw [hst _ h1]
      exact hv
    · cases hv

theorem mkA_mono {P : Program} {E E' : En} (h : En.le E E') {o : Op} {es : List (Value × C)} (hv : mkA P E o = some es) : mkA P E' o = some es := by
  unfold mkA at *
  split at hv
  · split at hv
    · rename_i hc
      rw [if_pos hc]
      split at hv
      · rename_i es' ho
        rw [h.orc _ _ _ _ ho]
        exact hv
      · cases hv
    · cases hv
  · cases hv
theorem mkS_mono {P : Program} {E E' : En} (h : En.le E E') {s s' : S} {o : Oper} (hv : mkS P E s o = some s') : mkS P E' s o = some s' := by
  unfold mkS at *
  simp only [Option.map_eq_some_iff] at hv
  obtain ⟨es, h1, rfl⟩ := hv
  rw [mkA_mono h h1]
  rfl
theorem stepG_mono {P : Program} {T : TT} {E E' : En} (h : En.le E E') {dr : Bool} {ops : Array Oper} {n : Nat} {o : Oper} {s : S} {z : Option X × S} (h1 : stepG P T E dr ops s n o = some z) : stepG P T E' dr ops s n o = some z := by
  unfold stepG at *
  split at h1
  · exact step_mono h h1
  · exact h1
  · cases h1
theorem evOpsB_mono {P : Program} {T : TT} {E E' : En} (h : En.le E E') {ops : Array Oper} {y : Option X × S} : ∀ (l : List Oper) (n : Nat) (s : S), evOpsB P T E ops n l s = some y → evOpsB P T E' ops n l s = some y
  | [], _, _, hv => by simp [evOpsB] at hv
  | [o], n, s, hv => by
    simp only [evOpsB] at hv ⊢
    split at hv
    · rename_i s1 h1
      rw [stepG_mono h h1]
      exact hv
    · cases hv
  | o :: o' :: l, n, s, hv => by
    simp only [evOpsB] at hv ⊢
    split at hv
    · rename_i s1 h1
      rw [stepG_mono h h1]
      exact evOpsB_mono h (o' :: l) _ _ hv
    · cases hv
theorem evSp_mono {P : Program} {T : TT} {E E' : En} (h : En.le E E') {ops : Array Oper} {l : List Oper} {s : S} {y : Option X × S} (hv : evSp P T E ops l s = some y) : evSp P T E' ops l s = some y := by
  unfold evSp at *
  rw [← h.obj]
  split at hv
  · rename_i hm
    rw [if_pos hm]
    cases l with
    | nil => cases hv
    | cons o r =>
      simp only at hv ⊢
      split at hv
      · rename_i s1 h1
        rw [mkS_mono h h1]
        exact evOps_mono h _ _ _ hv
      · cases hv
  · rename_i hm
    rw [if_neg hm]
    exact evOpsB_mono h _ _ _ hv
theorem evR_mono {P : Program} {T : TT} {E E' : En} (h : En.le E E') {draw : Bool} {ops : Array Oper} {s : S} {y : Option X × S} (hv : evR P T E draw ops s = some y) : evR P T E' draw ops s = some y := by
  unfold evR at *
  rw [← h.obj]
  split at hv
  · rename_i hm
    rw [if_pos hm]
    exact evSp_mono h hv
  · rename_i hm
    rw [if_neg hm]
    exact evOps_mono h _ _ _ hv

theorem enOf_mono {P : Program} {T : TT} {pr : Pr} {a b : Code → S → Option (Ex × S)} (h : ∀ c s r, a c s = some r → b c s = some r) : En.le (enOf P T pr a) (enOf P T pr b) where
  obj := rfl
  tk := rfl
  orc := by
    intro f xs obs an hr
    simp only [enOf, orcOf] at *
    split at hr
    · rename_i r' hp; simpa [hp] using hr
    · unfold callOf at *
      split at hr
      · rename_i hc
        rw [if_pos hc]
        split at hr
        · rename_i s1 h1; rw [h _ _ _ h1]; exact hr
        · rename_i s1 h1; rw [h _ _ _ h1]; exact hr
        · rename_i x s1 h1; rw [h _ _ _ h1]; exact hr
        · cases hr
      · cases hr

theorem evC_seqE (P : Program) (T : TT) (pr : Pr) (n : Nat) (a b : Code) (s : S) : evC P T pr (n + 1) (.seq a b) s = match evC P T pr n a s with
    | some (.normal, s') => evC P T pr n b s'
    | r => r := rfl
theorem evC_blockE (P : Program) (T : TT) (pr : Pr) (n i : Nat) (c : Code) (s : S) : evC P T pr (n + 1) (.block i c) s = match evC P T pr n c s with
    | some (.exit j, s') => some (if j = i then .normal else .exit j, s')
    | r => r := rfl
theorem evC_condE (P : Program) (T : TT) (pr : Pr) (n : Nat) (c : Operand) (a b : Code) (s : S) : evC P T pr (n + 1) (.cond c a b) s = match litBool (s.ev c) with
    | some true => evC P T pr n a s
    | some false => evC P T pr n b s
    | none => none := rfl
theorem evC_loopE (P : Program) (T : TT) (pr : Pr) (n : Nat) (c : Code) (s : S) : evC P T pr (n + 1) (.loop c) s = match evC P T pr n c s with
    | some (.normal, s') => evC P T pr n (.loop c) s'
    | r => r := rfl
theorem evC_regionE (P : Program) (T : TT) (pr : Pr) (n id : Nat) (ops : Array Oper) (draw : Bool) (s : S) : evC P T pr (n + 1) (.region id ops draw) s = match evR P T (enOf P T pr (evC P T pr n)) draw ops s with
    | some (none, s') => some (.normal, { s' with clk := s'.clk + 1 })
    | some (some x, s') => some (.pan x, { s' with clk := s'.clk + 1 })
    | none => none := rfl

theorem evC_succ {P : Program} {T : TT} {pr : Pr} : ∀ (n : Nat) (c : Code) (s : S) (r : Ex × S), evC P T pr n c s = some r → evC P T pr (n + 1) c s = some r
  | 0, c, s, r, h => by simp [evC] at h
  | n + 1, c, s, r, h => by
    have ih := evC_succ (P := P) (T := T) (pr := pr) n
    cases c with
    | seq a b =>
      rw [evC_seqE] at h ⊢
      split at h
      · rename_i s1 h1; rw [ih _ _ _ h1]; exact ih _ _ _ h
      · rename_i hne
        cases h2 : evC P T pr n a s with
        | none => rw [h2] at h; cases h
        | some p =>
          obtain ⟨e, s1⟩ := p
          rw [ih _ _ _ h2]
          cases e with
          | normal => exact (hne s1 h2).elim
          | exit i => rw [h2] at h; exact h
          | ret => rw [h2] at h; exact h
          | pan x => rw [h2] at h; exact h
    | block i c =>
      rw [evC_blockE] at h ⊢
      cases h2 : evC P T pr n c s with
      | none => rw [h2] at h; cases h
      | some p => rw [ih _ _ _ h2]; rw [h2] at h; exact h
    | cond c a b =>
      rw [evC_condE] at h ⊢
      split at h
      · exact ih _ _ _ h
      · exact ih _ _ _ h
      · cases h
    | loop c =>
      rw [evC_loopE] at h ⊢
      cases h2 : evC P T pr n c s with
      | none => rw [h2] at h; cases h
      | some p =>
        obtain ⟨e, s1⟩ := p
        rw [ih _ _ _ h2]
        rw [h2] at h
        cases e with
        | normal => exact ih _ _ _ h
        | exit i => exact h
        | ret => exact h
        | pan x => exact h
    | region id ops draw =>
      rw [evC_regionE] at h ⊢
      split at h
      · rename_i s1 h1
        rw [evR_mono (enOf_mono ih) h1]
        exact h
      · rename_i x s1 h1
        rw [evR_mono (enOf_mono ih) h1]
        exact h
      · cases h
    | skip => simpa only [evC] using h
    | ret => simpa only [evC] using h
    | exit i => simpa only [evC] using h
    | _ => simp [evC] at h

theorem evC_mono {P : Program} {T : TT} {pr : Pr} {n m : Nat} (h : n ≤ m) {c : Code} {s : S} {r : Ex × S} (hr : evC P T pr n c s = some r) : evC P T pr m c s = some r := by
  induction m with
  | zero => obtain rfl : n = 0 := by omega
            exact hr
  | succ m ih =>
    rcases Nat.lt_or_ge n (m + 1) with g | g
    · exact evC_succ m c s r (ih (by omega))
    · obtain rfl : n = m + 1 := by omega
      exact hr

section
variable (P : Program) (pr : Pr)

def enN (n : Nat) : En := enOf P (TT.of P) pr (evC P (TT.of P) pr n)
theorem enN_mono {n m : Nat} (h : n ≤ m) : En.le (enN P pr n) (enN P pr m) := enOf_mono fun _ _ _ hr => evC_mono h hr

/-- A call of f, given this, is answered so. -/
def Gives (f : Nat) (xs : List X) (obs : List Ob) (an : An) : Prop := ∃ n, (enN P pr n).orc f xs obs = some an
def CallK (f : Nat) (xs : List X) (obs : List Ob) (K : An → Prop) : Prop := ∃ an, Gives P pr f xs obs an ∧ K an
def WC (c : Code) (s : S) (Q : Ex → S → Prop) : Prop := ∃ n e s', evC P (TT.of P) pr n c s = some (e, s') ∧ Q e s'
def WO (dr : Bool) (ops : Array Oper) (k : Nat) (l : List Oper) (s : S) (Q : Option X → S → Prop) : Prop := ∃ n e s', evOps P (TT.of P) (enN P pr n) dr ops k l s = some (e, s') ∧ Q e s'
def SO (dr : Bool) (k : Nat) (o : Oper) (s : S) (Q : Option X → S → Prop) : Prop := ∃ n e s', step P (TT.of P) (enN P pr n) dr s k o = some (e, s') ∧ Q e s'
/-- A region that turns objects and yet draws its order. -/
def WS (ops : Array Oper) (l : List Oper) (s : S) (Q : Option X → S → Prop) : Prop := ∃ n e s', evSp P (TT.of P) (enN P pr n) ops l s = some (e, s') ∧ Q e s'
def WOB (ops : Array Oper) (k : Nat) (l : List Oper) (s : S) (Q : Option X → S → Prop) : Prop := ∃ n e s', evOpsB P (TT.of P) (enN P pr n) ops k l s = some (e, s') ∧ Q e s'

def thenQ (b : Code) (Q : Ex → S → Prop) : Ex → S → Prop
  | .normal, s => WC P pr b s Q
  | .exit i, s => Q (.exit i) s
  | .ret, s => Q .ret s
  | .pan x, s => Q (.pan x) s
def blockQ (i : Nat) (Q : Ex → S → Prop) : Ex → S → Prop
  | .normal, s => Q .normal s
  | .exit j, s => if j = i then Q .normal s else Q (.exit j) s
  | .ret, s => Q .ret s
  | .pan x, s => Q (.pan x) s
def regQ (Q : Ex → S → Prop) : Option X → S → Prop
  | none, s => Q .normal { s with clk := s.clk + 1 }
  | some x, s => Q (.pan x) { s with clk := s.clk + 1 }
/-- The rest of a region, if all is well. -/
def nextQ (F : S → Prop) (Q : Option X → S → Prop) : Option X → S → Prop
  | none, s => F s
  | some x, s => Q (some x) s
def condQ : Option Bool → Prop → Prop → Prop
  | some b, p, q => if b = true then p else q
  | none, _, _ => False
def guardQ : Option Bool → Prop → Prop → Prop
  | some true, p, _ => p
  | some false, _, q => q
  | none, _, _ => False

variable {P pr}

theorem Gives.unique {f : Nat} {xs : List X} {obs : List Ob} {r r' : An} (h : Gives P pr f xs obs r) (h' : Gives P pr f xs obs r') : r = r' := by
  obtain ⟨n, hn⟩ := h
  obtain ⟨m, hm⟩ := h'
  have h1 := (enN_mono P pr (Nat.le_max_left n m)).orc _ _ _ _ hn
  have h2 := (enN_mono P pr (Nat.le_max_right n m)).orc _ _ _ _ hm
  exact Option.some.inj (h1.symm.trans h2)

theorem Gives.k {f : Nat} {xs : List X} {obs : List Ob} {r : An} (h : Gives P pr f xs obs r) (K : An → Prop) : CallK P pr f xs obs K ↔ K r :=
  ⟨fun ⟨_, h1, h2⟩ => h.unique h1 ▸ h2, fun h2 => ⟨r, h, h2⟩⟩

theorem Z10 (s : S) (Q : Ex → S → Prop) : WC P pr .skip s Q ↔ Q .normal s :=
  ⟨fun ⟨n, e, s', h, hq⟩ => by
    cases n with
    | zero => simp [evC] at h
    | succ n => simp only [evC, Option.some.injEq, Prod.mk.injEq] at h; obtain ⟨rfl, rfl⟩ := h; exact hq, fun h => ⟨1, _, _, rfl, h⟩⟩
theorem Zy (s : S) (Q : Ex → S → Prop) : WC P pr .ret s Q ↔ Q .ret s :=
  ⟨fun ⟨n, e, s', h, hq⟩ => by
    cases n with
    | zero => simp [evC] at h
    | succ n => simp only [evC, Option.some.injEq, Prod.mk.injEq] at h; obtain ⟨rfl, rfl⟩ := h; exact hq, fun h => ⟨1, _, _, rfl, h⟩⟩
theorem Zv (i : Nat) (s : S) (Q : Ex → S → Prop) : WC P pr (.exit i) s Q ↔ Q (.exit i) s :=
  ⟨fun ⟨n, e, s', h, hq⟩ => by
    cases n with
    | zero => simp [evC] at h
    | succ n => simp only [evC, Option.some.injEq, Prod.mk.injEq] at h; obtain ⟨rfl, rfl⟩ := h; exact hq, fun h => ⟨1, _, _, rfl, h⟩⟩

theorem Zz (a b : Code) (s : S) (Q : Ex → S → Prop) : WC P pr (.seq a b) s Q ↔ WC P pr a s (thenQ P pr b Q) := by
  constructor
  · rintro ⟨n, e, s', h, hq⟩
    cases n with
    | zero => simp [evC] at h
    | succ n =>
      rw [evC_seqE] at h
      split at h
      · rename_i s1 h1; exact ⟨n, .normal, s1, h1, n, e, s', h, hq⟩
      · rename_i hne
        refine ⟨n, e, s', h, ?_⟩
        cases e with
        | normal => exact (hne s' h).elim
        | exit i => exact hq
        | ret => exact hq
        | pan x => exact hq
  · rintro ⟨n, e, s', h, hq⟩
    cases e with
    | normal =>
      obtain ⟨m, e2, s2, h2, hq2⟩ := hq
      refine ⟨max n m + 1, e2, s2, ?_, hq2⟩
      rw [evC_seqE]
      simp only [evC_mono (Nat.le_max_left n m) h, evC_mono (Nat.le_max_right n m) h2]
    | exit i => exact ⟨n + 1, .exit i, s', by rw [evC_seqE]; simp only [h], hq⟩
    | ret => exact ⟨n + 1, .ret, s', by rw [evC_seqE]; simp only [h], hq⟩
    | pan x => exact ⟨n + 1, .pan x, s', by rw [evC_seqE]; simp only [h], hq⟩

theorem Zt (i : Nat) (c : Code) (s : S) (Q : Ex → S → Prop) : WC P pr (.block i c) s Q ↔ WC P pr c s (blockQ i Q) := by
  constructor
  · rintro ⟨n, e, s', h, hq⟩
    cases n with
    | zero => simp [evC] at h
    | succ n =>
      rw [evC_blockE] at h
      split at h
      · rename_i j s1 h1
        simp only [Option.some.injEq, Prod.mk.injEq] at h
        obtain ⟨rfl, rfl⟩ := h
        refine ⟨n, _, _, h1, ?_⟩
        simp only [blockQ]
        split
        · rename_i e; rw [if_pos e] at hq; exact hq
        · rename_i e; rw [if_neg e] at hq; exact hq
      · rename_i hne
        refine ⟨n, e, s', h, ?_⟩
        cases e with
        | normal => exact hq
        | exit j => exact (hne j s' h).elim
        | ret => exact hq
        | pan x => exact hq
  · rintro ⟨n, e, s', h, hq⟩
    cases e with
    | normal => exact ⟨n + 1, .normal, s', by rw [evC_blockE]; simp only [h], hq⟩
    | exit j =>
      refine ⟨n + 1, if j = i then .normal else .exit j, s', by rw [evC_blockE]; simp only [h], ?_⟩
      simp only [blockQ] at hq
      split
      · rename_i e; rw [if_pos e] at hq; exact hq
      · rename_i e; rw [if_neg e] at hq; exact hq
    | ret => exact ⟨n + 1, .ret, s', by rw [evC_blockE]; simp only [h], hq⟩
    | pan x => exact ⟨n + 1, .pan x, s', by rw [evC_blockE]; simp only [h], hq⟩

theorem Zu (c : Operand) (a b : Code) (s : S) (Q : Ex → S → Prop) : WC P pr (.cond c a b) s Q ↔ condQ (litBool (s.ev c)) (WC P pr a s Q) (WC P pr b s Q) := by
  constructor
  · rintro ⟨n, e, s', h, hq⟩
    cases n with
    | zero => simp [evC] at h
    | succ n =>
      rw [evC_condE] at h
      split at h
      · rename_i hc; rw [hc]; exact ⟨n, e, s', h, hq⟩
      · rename_i hc; rw [hc]; exact ⟨n, e, s', h, hq⟩
      · cases h
  · intro h
    cases hc : litBool (s.ev c) with
    | none => rw [hc] at h; exact h.elim
    | some t =>
      rw [hc] at h
      cases t with
      | true => obtain ⟨n, e, s', h, hq⟩ := h; exact ⟨n + 1, e, s', by rw [evC_condE]; simp only [hc, h], hq⟩
      | false => obtain ⟨n, e, s', h, hq⟩ := h; exact ⟨n + 1, e, s', by rw [evC_condE]; simp only [hc, h], hq⟩

theorem WC_regionR (id : Nat) (ops : Array Oper) (draw : Bool) (s : S) (Q : Ex → S → Prop) : WC P pr (.region id ops draw) s Q ↔ ∃ n e s', evR P (TT.of P) (enN P pr n) draw ops s = some (e, s') ∧ regQ Q e s' := by
  constructor
  · rintro ⟨n, e, s', h, hq⟩
    cases n with
    | zero => simp [evC] at h
    | succ n =>
      rw [evC_regionE] at h
      split at h
      · rename_i s1 h1
        simp only [Option.some.injEq, Prod.mk.injEq] at h
        obtain ⟨rfl, rfl⟩ := h
        exact ⟨n, none, s1, h1, hq⟩
      · rename_i x s1 h1
        simp only [Option.some.injEq, Prod.mk.injEq] at h
        obtain ⟨rfl, rfl⟩ := h
        exact ⟨n, some x, s1, h1, hq⟩
      · cases h
  · rintro ⟨n, e, s1, h1, hq⟩
    cases e with
    | none =>
      refine ⟨n + 1, .normal, _, ?_, hq⟩
      unfold enN at h1
      rw [evC_regionE]
      simp only [h1]
    | some x =>
      refine ⟨n + 1, .pan x, _, ?_, hq⟩
      unfold enN at h1
      rw [evC_regionE]
      simp only [h1]
theorem WC_regionF (id : Nat) (ops : Array Oper) (s : S) (Q : Ex → S → Prop) : WC P pr (.region id ops false) s Q ↔ WO P pr false ops 0 ops.toList s (regQ Q) := by
  rw [WC_regionR]
  simp only [evR, Bool.false_and, Bool.false_eq_true, if_false]
  rfl
theorem WC_regionT (id : Nat) (ops : Array Oper) (s : S) (Q : Ex → S → Prop) : WC P pr (.region id ops true) s Q ↔ if spB pr.obj ops.toList = true then WS P pr ops ops.toList s (regQ Q) else WO P pr true ops 0 ops.toList s (regQ Q) := by
  rw [WC_regionR]
  have e : ∀ n, (enN P pr n).obj = pr.obj := fun n => rfl
  simp only [evR, Bool.true_and, e]
  split
  · rfl
  · rfl
/-- A loop, one round at a time. -/
theorem WC_loop (c : Code) (s : S) (Q : Ex → S → Prop) : WC P pr (.loop c) s Q ↔ WC P pr c s (thenQ P pr (.loop c) Q) := by
  constructor
  · rintro ⟨n, e, s', h, hq⟩
    cases n with
    | zero => simp [evC] at h
    | succ n =>
      rw [evC_loopE] at h
      split at h
      · rename_i s1 h1; exact ⟨n, .normal, s1, h1, n, e, s', h, hq⟩
      · rename_i hne
        refine ⟨n, e, s', h, ?_⟩
        cases e with
        | normal => exact (hne s' h).elim
        | exit i => exact hq
        | ret => exact hq
        | pan x => exact hq
  · rintro ⟨n, e, s', h, hq⟩
    cases e with
    | normal =>
      obtain ⟨m, e2, s2, h2, hq2⟩ := hq
      refine ⟨max n m + 1, e2, s2, ?_, hq2⟩
      rw [evC_loopE]
      simp only [evC_mono (Nat.le_max_left n m) h, evC_mono (Nat.le_max_right n m) h2]
    | exit i => exact ⟨n + 1, .exit i, s', by rw [evC_loopE]; simp only [h], hq⟩
    | ret => exact ⟨n + 1, .ret, s', by rw [evC_loopE]; simp only [h], hq⟩
    | pan x => exact ⟨n + 1, .pan x, s', by rw [evC_loopE]; simp only [h], hq⟩

/-- A loop, by an invariant: I m: m rounds are left at the most. -/
theorem WC_inv (c : Code) (Q : Ex → S → Prop) (I : Nat → S → Prop) (h : ∀ m s, I m s → WC P pr c s (fun e s' => match e with
    | .normal => ∃ m', m' < m ∧ I m' s'
    | .exit i => Q (.exit i) s'
    | .ret => Q .ret s'
    | .pan x => Q (.pan x) s')) : ∀ (m : Nat) (s : S), I m s → WC P pr (.loop c) s Q := by
  intro m
  induction m using Nat.strongRecOn with
  | _ m ih =>
    intro s hs
    rw [WC_loop]
    obtain ⟨n, e, s', h1, hq⟩ := h m s hs
    refine ⟨n, e, s', h1, ?_⟩
    cases e with
    | normal => obtain ⟨m', hm, hI⟩ := hq; exact ih m' hm s' hI
    | exit i => exact hq
    | ret => exact hq
    | pan x => exact hq

theorem WC.mono {c : Code} {s : S} {Q Q' : Ex → S → Prop} (h : WC P pr c s Q) (hq : ∀ e s, Q e s → Q' e s) : WC P pr c s Q' :=
  let ⟨n, e, s', h1, h2⟩ := h; ⟨n, e, s', h1, hq _ _ h2⟩

theorem Z14 (dr : Bool) (ops : Array Oper) (k : Nat) (s : S) (Q : Option X → S → Prop) : WO P pr dr ops k [] s Q ↔ Q none s :=
  ⟨fun ⟨n, e, s', h, hq⟩ => by simp only [evOps, Option.some.injEq, Prod.mk.injEq] at h; obtain ⟨rfl, rfl⟩ := h; exact hq, fun h => ⟨0, none, s, rfl, h⟩⟩

theorem Z13 (dr : Bool) (ops : Array Oper) (k : Nat) (o : Oper) (l : List Oper) (s : S) (Q : Option X → S → Prop) :
    WO P pr dr ops k (o :: l) s Q ↔ guardQ (guardOk ops s o) (SO P pr dr k o s (nextQ (fun s' => WO P pr dr ops (k + 1) l s' Q) Q)) (WO P pr dr ops (k + 1) l (s.put o.dst (.of .undef)) Q) := by
  constructor
  · rintro ⟨n, e, s', h, hq⟩
    simp only [evOps] at h
    cases hg : guardOk ops s o with
    | none => simp [stepG, hg] at h
    | some b =>
      cases b with
      | false =>
        simp only [stepG, hg] at h
        exact ⟨n, e, s', h, hq⟩
      | true =>
        simp only [stepG, hg] at h
        split at h
        · rename_i s1 h1; exact ⟨n, none, s1, h1, n, e, s', h, hq⟩
        · rename_i x s1 h1
          simp only [Option.some.injEq, Prod.mk.injEq] at h
          obtain ⟨rfl, rfl⟩ := h
          exact ⟨n, some x, s1, h1, hq⟩
        · cases h
  · intro h
    cases hg : guardOk ops s o with
    | none => rw [hg] at h; exact h.elim
    | some b =>
      rw [hg] at h
      cases b with
      | true =>
        obtain ⟨n, e1, s1, h1, h⟩ := h
        cases e1 with
        | none =>
          obtain ⟨m, e, s', h2, hq⟩ := h
          refine ⟨max n m, e, s', ?_, hq⟩
          simp only [evOps, stepG, hg, step_mono (enN_mono P pr (Nat.le_max_left n m)) h1]
          exact evOps_mono (enN_mono P pr (Nat.le_max_right n m)) _ _ _ h2
        | some x => exact ⟨n, some x, s1, by simp only [evOps, stepG, hg, h1], h⟩
      | false =>
        obtain ⟨n, e, s', h2, hq⟩ := h
        exact ⟨n, e, s', by simp only [evOps, stepG, hg]; exact h2, hq⟩

def pan0 (Q : Option X → S → Prop) : Option X → S → Prop
  | none, s => Q none s
  | some _, _ => False
theorem Z12 (ops : Array Oper) (k : Nat) (o : Oper) (s : S) (Q : Option X → S → Prop) :
    WOB P pr ops k [o] s Q ↔ guardQ (guardOk ops s o) (SO P pr false k o s (pan0 Q)) (Q none (s.put o.dst (.of .undef))) := by
  constructor
  · rintro ⟨n, e, s', h, hq⟩
    simp only [evOpsB] at h
    cases hg : guardOk ops s o with
    | none => simp [stepG, hg] at h
    | some b =>
      cases b with
      | false =>
        simp only [stepG, hg, Option.some.injEq, Prod.mk.injEq] at h
        obtain ⟨rfl, rfl⟩ := h
        exact hq
      | true =>
        simp only [stepG, hg] at h
        split at h
        · rename_i s1 h1
          simp only [Option.some.injEq, Prod.mk.injEq] at h
          obtain ⟨rfl, rfl⟩ := h
          exact ⟨n, none, s1, h1, hq⟩
        · cases h
  · intro h
    cases hg : guardOk ops s o with
    | none => rw [hg] at h; exact h.elim
    | some b =>
      rw [hg] at h
      cases b with
      | true =>
        obtain ⟨n, e1, s1, h1, h⟩ := h
        cases e1 with
        | none => exact ⟨n, none, s1, by simp only [evOpsB, stepG, hg, h1], h⟩
        | some x => exact h.elim
      | false => exact ⟨0, none, _, by simp only [evOpsB, stepG, hg], h⟩
theorem Z11 (ops : Array Oper) (k : Nat) (o o' : Oper) (l : List Oper) (s : S) (Q : Option X → S → Prop) :
    WOB P pr ops k (o :: o' :: l) s Q ↔ guardQ (guardOk ops s o) (SO P pr true k o s (nextQ (fun s' => WOB P pr ops (k + 1) (o' :: l) s' Q) fun _ _ => False)) (WOB P pr ops (k + 1) (o' :: l) (s.put o.dst (.of .undef)) Q) := by
  constructor
  · rintro ⟨n, e, s', h, hq⟩
    simp only [evOpsB] at h
    cases hg : guardOk ops s o with
    | none => simp [stepG, hg] at h
    | some b =>
      cases b with
      | false =>
        simp only [stepG, hg] at h
        exact ⟨n, e, s', h, hq⟩
      | true =>
        simp only [stepG, hg] at h
        split at h
        · rename_i s1 h1; exact ⟨n, none, s1, h1, n, e, s', h, hq⟩
        · cases h
  · intro h
    cases hg : guardOk ops s o with
    | none => rw [hg] at h; exact h.elim
    | some b =>
      rw [hg] at h
      cases b with
      | true =>
        obtain ⟨n, e1, s1, h1, h⟩ := h
        cases e1 with
        | none =>
          obtain ⟨m, e, s', h2, hq⟩ := h
          refine ⟨max n m, e, s', ?_, hq⟩
          simp only [evOpsB, stepG, hg, step_mono (enN_mono P pr (Nat.le_max_left n m)) h1]
          exact evOpsB_mono (enN_mono P pr (Nat.le_max_right n m)) _ _ _ h2
        | some x => exact h.elim
      | false =>
        obtain ⟨n, e, s', h2, hq⟩ := h
        exact ⟨n, e, s', by simp only [evOpsB, stepG, hg]; exact h2, hq⟩

def optQ (Q : S → Prop) : Option S → Prop
  | some s => Q s
  | none => False
/-- What is done with an operation's answer. -/
def outK (s : S) (d : Option Nat) (af : Array Edge) (K : S → Prop) : Out → Prop
  | none => False
  | some (x, none) => K (s.put d x)
  | some (x, some t) => okTk s.clk af.toList (some t) = true ∧ K ((s.drop (some t)).put d x)

theorem SO_val {dr : Bool} {k : Nat} {o : Oper} {s : S} {Q : Option X → S → Prop} (v : Out) (hst : ∀ E, step P (TT.of P) E dr s k o = stepV P (TT.of P) E s k o) (h : ∀ n, val P (TT.of P) (enN P pr n) s k o = v) : SO P pr dr k o s Q ↔ outK s o.dst o.after (Q none) v := by
  constructor
  · rintro ⟨n, e, s', h1, hq⟩
    rw [hst, stepV, h n] at h1
    split at h1
    · rename_i x t
      split at h1
      · rename_i hok
        simp only [Option.some.injEq, Prod.mk.injEq] at h1
        obtain ⟨rfl, rfl⟩ := h1
        cases t with
        | none => exact hq
        | some t => exact ⟨hok, hq⟩
      · cases h1
    · cases h1
  · intro hv
    match v, h, hv with
    | some (x, none), h, hv => exact ⟨0, none, _, by rw [hst, stepV, h 0]; simp only [okTk, if_true]; rfl, hv⟩
    | some (x, some t), h, hv => exact ⟨0, none, _, by rw [hst, stepV, h 0]; simp only [hv.1, if_true], hv.2⟩

section
variable (dr : Bool) (k : Nat) (d : Option Nat) (ty : Nat) (po : String) (af : Array Edge) (g : Option (Nat × Bool)) (s : S) (Q : Option X → S → Prop)

theorem Zm (x : Operand) : SO P pr dr k ⟨d, .move x, ty, po, af, g⟩ s Q ↔ Q none (s.put d (s.ev x)) := SO_val (out (s.ev x)) (fun _ => by cases dr <;> rfl) fun _ => rfl
theorem Z2 (x : Operand) : SO P pr dr k ⟨d, .assign x, ty, po, af, g⟩ s Q ↔ Q none (s.put d (s.ev x)) := SO_val (out (s.ev x)) (fun _ => by cases dr <;> rfl) fun _ => rfl

def pickO (s : S) (a b : Operand) : Option Bool → Out
  | some b' => out (if b' then s.ev a else s.ev b)
  | none => none
theorem Zp (c a b : Operand) : SO P pr dr k ⟨d, .pick c a b, ty, po, af, g⟩ s Q ↔ outK s d af (Q none) (pickO s a b (litBool (s.ev c))) :=
  SO_val _ (fun _ => by cases dr <;> rfl) fun _ => by simp only [val, pickO]; cases litBool (s.ev c) <;> rfl

theorem Z3 (op : BinOp) (t : Nat) (x y : Operand) (yt : Nat) : SO P pr dr k ⟨d, .binOp op t x y yt, ty, po, af, g⟩ s Q ↔ outK s d af (Q none) (binX P (TT.of P) t ((TT.of P t).map (·.und)) op (s.ev x) (s.ev y)) :=
  SO_val _ (fun _ => by cases dr <;> rfl) fun _ => rfl
def unX (op : UnOp) : X → Out
  | .of (.lit a) => outO ((unLit op a).map fun v => .of (.lit v))
  | _ => none
theorem Zs (op : UnOp) (t : Nat) (x : Operand) : SO P pr dr k ⟨d, .unOp op t x, ty, po, af, g⟩ s Q ↔ outK s d af (Q none) (unX op (s.ev x)) := SO_val _ (fun _ => by cases dr <;> rfl) fun _ => rfl
theorem Zg (t : Nat) (a : Operand) : SO P pr dr k ⟨d, .load t a, ty, po, af, g⟩ s Q ↔ outK s d af (Q none) (loadX (TT.of P) s.objs t (s.ev a)) := SO_val _ (fun _ => by cases dr <;> rfl) fun _ => rfl
theorem Zc (t : Nat) (x : Operand) (f : Nat) : SO P pr dr k ⟨d, .fieldAddr t x f, ty, po, af, g⟩ s Q ↔ outK s d af (Q none) (fieldAddrX (TT.of P) t f (s.ev x)) := SO_val _ (fun _ => by cases dr <;> rfl) fun _ => rfl
theorem Zb (t : Nat) (x : Operand) (f : Nat) : SO P pr dr k ⟨d, .field t x f, ty, po, af, g⟩ s Q ↔ outK s d af (Q none) (fieldX (TT.of P) t f (s.ev x)) := SO_val _ (fun _ => by cases dr <;> rfl) fun _ => rfl
theorem Ze (t : Nat) (x i : Operand) : SO P pr dr k ⟨d, .indexAddr t x i, ty, po, af, g⟩ s Q ↔ outK s d af (Q none) (indexAddrX (TT.of P) t (s.ev x) (s.ev i)) := SO_val _ (fun _ => by cases dr <;> rfl) fun _ => rfl
theorem Zd (t : Nat) (x i : Operand) : SO P pr dr k ⟨d, .index t x i, ty, po, af, g⟩ s Q ↔ outK s d af (Q none) (indexX (TT.of P) t (s.ev x) (s.ev i)) := SO_val _ (fun _ => by cases dr <;> rfl) fun _ => rfl
theorem Zq (t : Nat) (x : Operand) (lo hi : Option Operand) : SO P pr dr k ⟨d, .slice t x lo hi none, ty, po, af, g⟩ s Q ↔ outK s d af (Q none) (sliceX (TT.of P) t (s.ev x) (lo.map s.ev) (hi.map s.ev)) := SO_val _ (fun _ => by cases dr <;> rfl) fun _ => rfl
theorem Z9 (a b : Nat) (x : Operand) : SO P pr dr k ⟨d, .convert a b x, ty, po, af, g⟩ s Q ↔ outK s d af (Q none) (convertX (TT.of P) a b (s.ev x)) := SO_val _ (fun _ => by cases dr <;> rfl) fun _ => rfl

def extractX (i : Nat) : X → Out
  | .tup xs => outO (xs[i]?)
  | .of (.tup cs) => outO ((cs[i]?).map .of)
  | _ => none
theorem Za (x : Operand) (i : Nat) : SO P pr dr k ⟨d, .extract x i, ty, po, af, g⟩ s Q ↔ outK s d af (Q none) (extractX i (s.ev x)) := SO_val _ (fun _ => by cases dr <;> rfl) fun _ => rfl
def nilX : X → Out
  | .ptr r off => out (.ptr r off)
  | .of (.ref cs) => out (.of (.ref cs))
  | _ => none
theorem Zn (x : Operand) : SO P pr dr k ⟨d, .nilCheck x, ty, po, af, g⟩ s Q ↔ outK s d af (Q none) (nilX (s.ev x)) := SO_val _ (fun _ => by cases dr <;> rfl) fun _ => rfl
def fnX (f : Nat) : Option (List C) → Out
  | some cs => out (.of (.fn f cs))
  | none => none
theorem Zi (f : Nat) (caps : Array Operand) : SO P pr dr k ⟨d, .makeFunc (.func f) #[] caps, ty, po, af, g⟩ s Q ↔ outK s d af (Q none) (fnX f (rdAll s.ev caps.toList)) := SO_val _ (fun _ => by cases dr <;> rfl) fun _ => rfl

def buildX (P : Program) (t : Nat) : Option TD → Option (List (Nat × List X)) → Out
  | some d, some qs => match d.und with
    | .struct _ => outO ((fillX (fun i => d.fields[i]?) (zeroX d) qs).map .agg)
    | .array _ e => match TT.of P e with
      | some de => outO ((fillX (fun i => some (i * de.size, de.size)) (zeroX d) qs).map .agg)
      | none => none
    | _ => none
  | _, _ => none
theorem Z5 (t : Nat) (ps : Array (Nat × Operand)) : SO P pr dr k ⟨d, .build t ps, ty, po, af, g⟩ s Q ↔ outK s d af (Q none) (buildX P t (TT.of P t) (partsX s.ev ps.toList)) :=
  SO_val _ (fun _ => by cases dr <;> rfl) fun _ => by simp only [val, buildX]; cases TT.of P t <;> cases partsX s.ev ps.toList <;> rfl
def buildSliceX (t : Tk) (n : Nat) : Option (Nat × TD) → Option (List (Nat × List X)) → Out
  | some (e, d), some qs =>
    if n * d.size ≤ 16777216 ∧ 0 < d.size ∧ d.zero.length = d.size then match fillX (fun i => some (i * d.size, d.size)) ((List.replicate n (zeroX d)).flatten) qs with
      | some xs => match X.rds xs with
        | some cs => out (.own t e d.size cs n)
        | none => none
      | none => none
    else none
  | _, _ => none
theorem Z6 (t n : Nat) (ps : Array (Nat × Operand)) : SO P pr dr k ⟨d, .buildSlice t n ps, ty, po, af, g⟩ s Q ↔ outK s d af (Q none) (buildSliceX (.nm s.clk k 0) n (elemOf (TT.of P) t) (partsX s.ev ps.toList)) :=
  SO_val _ (fun _ => by cases dr <;> rfl) fun _ => by simp only [val, buildSliceX]; cases elemOf (TT.of P) t <;> cases partsX s.ev ps.toList <;> rfl
theorem Zf (x : Operand) (t : Nat) : SO P pr dr k ⟨d, .call { callee := .builtin .len, args := #[x], argTypes := #[t] }, ty, po, af, g⟩ s Q ↔ outK s d af (Q none) (lenX ((TT.of P t).map (·.und)) (s.ev x)) := SO_val _ (fun _ => by cases dr <;> rfl) fun _ => rfl
theorem Zl (a b : Operand) (ts : Array Nat) : SO P pr dr k ⟨d, .call { callee := .builtin .min, args := #[a, b], argTypes := ts }, ty, po, af, g⟩ s Q ↔ outK s d af (Q none) (minX (s.ev a) (s.ev b)) := SO_val _ (fun _ => by cases dr <;> rfl) fun _ => rfl
theorem Z1 (a b : Operand) (st xt : Nat) : SO P pr dr k ⟨d, .call { callee := .builtin .append, args := #[a, b], argTypes := #[st, xt] }, ty, po, af, g⟩ s Q ↔ outK s d af (Q none) (appendX (TT.of P) (.nm s.clk k 0) st xt (s.ev a) (s.ev b)) := SO_val _ (fun _ => by cases dr <;> rfl) fun _ => rfl

def ifcX (t : Nat) : Bool → Option C → Out
  | true, some c => out (.of (.ifc t c))
  | _, _ => none
theorem Zj (t : Nat) (x : Operand) : SO P pr dr k ⟨d, .makeInterface t x, ty, po, af, g⟩ s Q ↔ outK s d af (Q none) (ifcX t (ifcD ((TT.of P t).map (·.und))) (s.ev x).rd) :=
  SO_val _ (fun _ => by cases dr <;> rfl) fun _ => by simp only [val, ifcX]; cases ifcD ((TT.of P t).map (·.und)) <;> cases (s.ev x).rd <;> rfl

/-- A call on plain data. -/
def plainK (s : S) (k : Nat) (d : Option Nat) (Q : Option X → S → Prop) : An → Prop
  | ⟨false, rs, []⟩ => Q none (s.put d (oneX (nameX s.clk k rs)))
  | _ => False
def plainQ (P : Program) (pr : Pr) (s : S) (k : Nat) (d : Option Nat) (Q : Option X → S → Prop) (f : Nat) (caps : List C) : Option (List C) → Prop
  | some cs => callable P f = true ∧ CallK P pr f ((cs ++ caps).map .of) [] (plainK s k d Q)
  | none => False
/-- A call that takes or gives objects. -/
def back2 (Q : Option X → S → Prop) : Option (Option X × S) → Prop
  | some (e, s) => Q e s
  | none => False
def backQ (s : S) (k : Nat) (d : Option Nat) (refs : List Nat) (ts : List Tk) (Q : Option X → S → Prop) (an : An) : Prop := back2 Q (backS s k d refs ts an)
def objQ2 (P : Program) (pr : Pr) (s : S) (k : Nat) (d : Option Nat) (refs : List Nat) (ts : List Tk) (Q : Option X → S → Prop) (f : Nat) (us : List X) : Option (List Ob) → Prop
  | some obs => callable P f = true ∧ CallK P pr f (X.trs (pos refs) (rhoIn refs ts) us) obs (backQ s k d refs ts Q)
  | none => False
def objQ1 (P : Program) (pr : Pr) (s : S) (k : Nat) (d : Option Nat) (Q : Option X → S → Prop) (f : Nat) (us : List X) (refs : List Nat) (ts : List Tk) : Prop :=
  objQ2 P pr s k d refs ts Q f us (pickObs (pos refs) (rhoIn refs ts) (dropTs ts s.objs) refs)
def toksB (b : Bool) (us : List X) : List Tk := match b with
  | true => nub (X.toksL us) []
  | false => []
def callB (P : Program) (pr : Pr) (dr : Bool) (s : S) (k : Nat) (d : Option Nat) (Q : Option X → S → Prop) (f : Nat) (us : List X) (caps : List C) (cs : Option (List C)) : Bool → Prop
  | true => dr = false ∧ objQ1 P pr s k d Q f us (reach s.objs 999 (X.refsL us) []) (toksB (pr.tk f) us)
  | false => plainQ P pr s k d Q f caps cs
def callT (P : Program) (pr : Pr) (dr : Bool) (s : S) (k : Nat) (d : Option Nat) (Q : Option X → S → Prop) (args : List X) (cs : Option (List C)) : X → Prop
  | .of (.fn f caps) => callB P pr dr s k d Q f (args ++ caps.map .of) caps cs (pr.obj f)
  | .clo f caps => pr.obj f = true ∧ dr = false ∧ objQ1 P pr s k d Q f (args ++ caps) (reach s.objs 999 (X.refsL (args ++ caps)) []) (toksB (pr.tk f) (args ++ caps))
  | _ => False

theorem callS_eq (n : Nat) (f : Nat) (us : List X) : (∃ e s', callS P (enN P pr n) s k d f us = some (e, s') ∧ Q e s') → objQ1 P pr s k d Q f us (reach s.objs 999 (X.refsL us) []) (toksB (pr.tk f) us) := by
  rintro ⟨e, s', h, hq⟩
  unfold callS at h
  split at h
  rotate_left
  · cases h
  rename_i hc
  simp only at h
  have ht : (if (enN P pr n).tk f = true then nub (X.toksL us) [] else []) = toksB (pr.tk f) us := by
    show (if pr.tk f = true then _ else _) = _
    cases pr.tk f <;> rfl
  rw [ht] at h
  unfold objQ1
  split at h
  · rename_i obs hobs
    rw [hobs]
    split at h
    · rename_i an han
      refine ⟨hc, an, ⟨n, han⟩, ?_⟩
      unfold backQ
      rw [h]
      exact hq
    · cases h
  · cases h
theorem callS_of (f : Nat) (us : List X) (h : objQ1 P pr s k d Q f us (reach s.objs 999 (X.refsL us) []) (toksB (pr.tk f) us)) : ∃ n e s', callS P (enN P pr n) s k d f us = some (e, s') ∧ Q e s' := by
  unfold objQ1 at h
  cases hobs : pickObs (pos (reach s.objs 999 (X.refsL us) [])) (rhoIn (reach s.objs 999 (X.refsL us) []) (toksB (pr.tk f) us)) (dropTs (toksB (pr.tk f) us) s.objs) (reach s.objs 999 (X.refsL us) []) with
  | none => rw [hobs] at h; exact h.elim
  | some obs =>
    rw [hobs] at h
    obtain ⟨hc, an, ⟨n, han⟩, hb⟩ := h
    unfold backQ at hb
    cases hbs : backS s k d (reach s.objs 999 (X.refsL us) []) (toksB (pr.tk f) us) an with
    | none => rw [hbs] at hb; exact hb.elim
    | some p =>
      obtain ⟨e, s'⟩ := p
      rw [hbs] at hb
      refine ⟨n, e, s', ?_, hb⟩
      unfold callS
      rw [if_pos hc]
      have ht : (if (enN P pr n).tk f = true then nub (X.toksL us) [] else []) = toksB (pr.tk f) us := by
        show (if pr.tk f = true then _ else _) = _
        cases pr.tk f <;> rfl
      simp only [ht, hobs, han, hbs]

theorem stepV_call (n : Nat) (f : Operand) (args : Array Operand) (tys : Array Nat) : stepV P (TT.of P) (enN P pr n) s k ⟨d, .call { callee := .value f, args := args, argTypes := tys }, ty, po, af, g⟩ = match s.ev f, rdAll s.ev args.toList with
    | .of (.fn f caps), some cs => (match callX P (enN P pr n) s.clk k f (cs ++ caps) with
      | some (x, t) => if okTk s.clk af.toList t = true then some (none, (s.drop t).put d x) else none
      | none => none)
    | _, _ => none := by
  simp only [stepV, val, valCall]
  split <;> rename_i h <;> split at h <;> simp_all

theorem plain_iff (f : Operand) (fn : Nat) (caps : List C) (args : Array Operand) (tys : Array Nat) (hf : s.ev f = .of (.fn fn caps)) (ho : pr.obj fn = false) :
    (∃ n e s', stepV P (TT.of P) (enN P pr n) s k ⟨d, .call { callee := .value f, args := args, argTypes := tys }, ty, po, af, g⟩ = some (e, s') ∧ Q e s') ↔ plainQ P pr s k d Q fn caps (rdAll s.ev args.toList) := by
  constructor
  · rintro ⟨n, e, s', h, hq⟩
    rw [stepV_call, hf] at h
    cases hr : rdAll s.ev args.toList with
    | none => rw [hr] at h; cases h
    | some cs =>
      rw [hr] at h
      simp only at h
      split at h
      · rename_i x t hx
        unfold callX at hx
        split at hx
        · rename_i hc
          simp only [Bool.and_eq_true] at hc
          split at hx
          · rename_i rs hor
            obtain ⟨rfl, rfl⟩ := out_inv hx
            simp only [okTk, if_true, Option.some.injEq, Prod.mk.injEq] at h
            obtain ⟨rfl, rfl⟩ := h
            exact ⟨hc.1, _, ⟨n, hor⟩, hq⟩
          · cases hx
        · cases hx
      · cases h
  · intro h
    cases hr : rdAll s.ev args.toList with
    | none => rw [hr] at h; exact h.elim
    | some cs =>
      rw [hr] at h
      obtain ⟨hc, an, ⟨n, hor⟩, hk⟩ := h
      match an, hor, hk with
      | ⟨false, rs, []⟩, hor, hk =>
        refine ⟨n, none, _, ?_, hk⟩
        rw [stepV_call, hf, hr]
        have : callX P (enN P pr n) s.clk k fn (cs ++ caps) = out (oneX (nameX s.clk k rs)) := by
          unfold callX
          have ho' : (enN P pr n).obj fn = false := ho
          rw [if_pos (by simp [hc, ho']), hor]
        simp only [this, out, okTk, if_true]
        rfl

/-- A call of a function value. -/
theorem SO_callV (f : Operand) (args : Array Operand) (tys : Array Nat) : SO P pr dr k ⟨d, .call { callee := .value f, args := args, argTypes := tys }, ty, po, af, g⟩ s Q ↔
    callT P pr dr s k d Q (args.toList.map s.ev) (rdAll s.ev args.toList) (s.ev f) := by
  have hst : ∀ n, step P (TT.of P) (enN P pr n) dr s k ⟨d, .call { callee := .value f, args := args, argTypes := tys }, ty, po, af, g⟩ = if dr = true then stepV P (TT.of P) (enN P pr n) s k ⟨d, .call { callee := .value f, args := args, argTypes := tys }, ty, po, af, g⟩ else
      match target s (.value f) args.toList with
      | some (g', us) => if pr.obj g' = true then callS P (enN P pr n) s k d g' us else stepV P (TT.of P) (enN P pr n) s k ⟨d, .call { callee := .value f, args := args, argTypes := tys }, ty, po, af, g⟩
      | none => none := fun n => by
    unfold step
    rfl
  have hV : ∀ (x : X), s.ev f = x → (∀ fn caps, x ≠ .of (.fn fn caps)) → ∀ n, stepV P (TT.of P) (enN P pr n) s k ⟨d, .call { callee := .value f, args := args, argTypes := tys }, ty, po, af, g⟩ = none := fun x hx hne n => by
    rw [stepV_call, hx]
    split
    · rename_i h; exact (hne _ _ rfl).elim
    · rfl
  unfold SO
  simp only [hst]
  cases hf : s.ev f with
  | of c =>
    cases c with
    | fn fn caps =>
      simp only [callT, target, hf]
      cases ho : pr.obj fn with
      | true =>
        simp only [callB]
        cases dr with
        | true =>
          simp only [if_true, Bool.true_eq_false, false_and, iff_false]
          rintro ⟨n, e, s', h, _⟩
          rw [stepV_call, hf] at h
          cases hr : rdAll s.ev args.toList with
          | none => rw [hr] at h; cases h
          | some cs =>
            rw [hr] at h
            have : callX P (enN P pr n) s.clk k fn (cs ++ caps) = none := by
              unfold callX
              have ho' : (enN P pr n).obj fn = true := ho
              rw [if_neg (by simp [ho'])]
            simp [this] at h
        | false =>
          simp only [Bool.false_eq_true, if_false, if_true, true_and]
          constructor
          · rintro ⟨n, e, s', h, hq⟩; exact callS_eq k d s Q n fn _ ⟨e, s', h, hq⟩
          · intro h; exact callS_of k d s Q fn _ h
      | false =>
        simp only [callB]
        rw [← plain_iff k d ty po af g s Q f fn caps args tys hf ho]
        cases dr with
        | true => simp only [if_true]
        | false => simp only [Bool.false_eq_true, if_false]
    | _ =>
      simp only [callT, iff_false]
      rintro ⟨n, e, s', h, _⟩
      rw [hV _ hf (fun _ _ e => by cases e) n] at h
      simp [target, hf] at h
  | clo fn caps =>
    simp only [callT, target, hf]
    have hn := hV _ hf (fun _ _ e => by cases e)
    cases dr with
    | true =>
      simp only [if_true, Bool.true_eq_false, false_and, and_false, iff_false]
      rintro ⟨n, e, s', h, _⟩
      rw [hn] at h
      cases h
    | false =>
      simp only [Bool.false_eq_true, if_false, true_and]
      cases ho : pr.obj fn with
      | true =>
        simp only [if_true, true_and]
        constructor
        · rintro ⟨n, e, s', h, hq⟩; exact callS_eq k d s Q n fn _ ⟨e, s', h, hq⟩
        · intro h; exact callS_of k d s Q fn _ h
      | false =>
        simp only [Bool.false_eq_true, if_false, false_and, iff_false]
        rintro ⟨n, e, s', h, _⟩
        rw [hn] at h
        cases h
  | _ =>
    simp only [callT, iff_false]
    rintro ⟨n, e, s', h, _⟩
    rw [hV _ hf (fun _ _ e => by cases e) n] at h
    simp [target, hf] at h

/-- A call of a function. -/
theorem Z7 (f : Nat) (args : Array Operand) (tys : Array Nat) : SO P pr dr k ⟨d, .call { callee := .value (.func f), args := args, argTypes := tys }, ty, po, af, g⟩ s Q ↔
    callB P pr dr s k d Q f (args.toList.map s.ev) [] (rdAll s.ev args.toList) (pr.obj f) := by
  rw [SO_callV]
  simp only [S.ev, callT, List.map_nil, List.append_nil]

/-- A call of a function value in a slot. -/
theorem Z8 (t : Nat) (args : Array Operand) (tys : Array Nat) : SO P pr dr k ⟨d, .call { callee := .value (.tmp t), args := args, argTypes := tys }, ty, po, af, g⟩ s Q ↔
    callT P pr dr s k d Q (args.toList.map s.ev) (rdAll s.ev args.toList) (s.fr t) := SO_callV dr k d ty po af g s Q (.tmp t) args tys

theorem Zh (t : Nat) (x i : Operand) (ok : Bool) : SO P pr dr k ⟨d, .lookup t x i ok, ty, po, af, g⟩ s Q ↔ outK s d af (Q none) (lookupX (TT.of P) s.objs t (s.ev x) (s.ev i) ok) := SO_val _ (fun _ => by cases dr <;> rfl) fun _ => rfl

theorem SO_step {o : Oper} (v : Option S) (h : ∀ n, step P (TT.of P) (enN P pr n) false s k o = v.map fun s => (none, s)) : SO P pr false k o s Q ↔ optQ (Q none) v := by
  unfold SO
  simp only [h]
  cases v with
  | none => simp [optQ]
  | some s' =>
    constructor
    · rintro ⟨n, e, s1, h1, h2⟩
      simp only [Option.map_some, Option.some.injEq, Prod.mk.injEq] at h1
      obtain ⟨rfl, rfl⟩ := h1
      exact h2
    · intro h1
      exact ⟨0, none, s', rfl, h1⟩

def allocO (s : S) (d : Option Nat) (ty : Nat) : Option (List X) → Option S
  | some xs => some (allocS s d ty xs)
  | none => none
theorem Z0 (t : Nat) : SO P pr false k ⟨d, .alloc t, ty, po, af, g⟩ s Q ↔ optQ (Q none) (allocO s d t ((TT.of P t).map zeroX)) :=
  SO_step k s Q _ fun n => by
    simp only [step, Bool.false_eq_true, if_false]
    cases TT.of P t <;> rfl
def boxO : Option TD → Option (List X) → Option (List X)
  | some d, some xs => if xs.length = d.size then some xs else none
  | _, _ => none
theorem Z4 (t : Nat) (x : Operand) : SO P pr false k ⟨d, .box t x, ty, po, af, g⟩ s Q ↔ optQ (Q none) (allocO s d t (boxO (TT.of P t) (cellsX (s.ev x)))) :=
  SO_step k s Q _ fun n => by
    simp only [step, Bool.false_eq_true, if_false]
    cases TT.of P t with
    | none => rfl
    | some td =>
      cases cellsX (s.ev x) with
      | none => rfl
      | some xs => simp only [boxO]; split <;> rfl
def storeO (s : S) (d : Option Nat) : Option TD → X → Option (List X) → Option S
  | some td, .ptr r off, some xs => storeS s d td.size r off xs
  | _, _, _ => none
theorem Zr (t : Nat) (a x : Operand) : SO P pr false k ⟨d, .store t a x, ty, po, af, g⟩ s Q ↔ optQ (Q none) (storeO s d (TT.of P t) (s.ev a) (cellsX (s.ev x))) :=
  SO_step k s Q _ fun n => by
    simp only [step, Bool.false_eq_true, if_false, storeO]
    cases TT.of P t with
    | none => rfl
    | some td =>
      cases s.ev a <;> cases cellsX (s.ev x) <;> rfl
theorem Zk (t : Nat) : SO P pr false k ⟨d, .makeMap t none, ty, po, af, g⟩ s Q ↔ Q none ({ s with objs := s.objs ++ [Ob.map []] }.put d (.mp s.objs.length)) :=
  SO_step k s Q (some _) fun n => rfl
def panQ (Q : Option X → S → Prop) (s : S) : Option C → Prop
  | some (.ifc t c) => Q (some (.of (.ifc t c))) s
  | _ => False
theorem Zo (x : Operand) : SO P pr false k ⟨d, .panic x, ty, po, af, g⟩ s Q ↔ panQ Q s (s.ev x).rd := by
  have h : ∀ n, step P (TT.of P) (enN P pr n) false s k ⟨d, .panic x, ty, po, af, g⟩ = match (s.ev x).rd with
    | some (.ifc t c) => some (some (.of (.ifc t c)), s)
    | _ => none := fun n => rfl
  unfold SO
  simp only [h]
  cases (s.ev x).rd with
  | none => simp [panQ]
  | some c =>
    cases c with
    | ifc t c =>
      simp only [panQ]
      exact ⟨fun ⟨n, e, s1, h1, h2⟩ => by
        simp only [Option.some.injEq, Prod.mk.injEq] at h1
        obtain ⟨rfl, rfl⟩ := h1
        exact h2, fun h1 => ⟨0, _, s, rfl, h1⟩⟩
    | _ => simp [panQ]
end

/-- A function's answer, by its body. -/
def endQ (P : Program) (f m : Nat) (an : An) : Ex → S → Prop
  | .normal, s => ((resXs (TT.of P) s (resVars P f)).bind fun rs => leave m false rs s.objs) = some an
  | .ret, s => ((resXs (TT.of P) s (resVars P f)).bind fun rs => leave m false rs s.objs) = some an
  | .pan x, s => leave m true [x] s.objs = some an
  | .exit _, _ => False

theorem Gives.of_body {f : Nat} {xs : List X} {obs : List Ob} {an : An} (hp : pr.prim f xs obs = none) (hok : fnOk P f = true) (har : xs.length ≤ arity P f) (h : WC P pr (bodyOf P f) (initS xs obs) (endQ P f obs.length an)) : Gives P pr f xs obs an := by
  obtain ⟨n, e, s', h1, hq⟩ := h
  refine ⟨n, ?_⟩
  unfold enN enOf orcOf callOf
  simp only
  rw [hp]
  simp only [hok, har, and_self, if_true, h1]
  cases e with
  | normal => exact hq
  | ret => exact hq
  | pan x => exact hq
  | exit i => exact hq.elim

theorem Gives.of_prim {f : Nat} {xs : List X} {obs : List Ob} {an : An} (hp : pr.prim f xs obs = some an) : Gives P pr f xs obs an := ⟨0, by unfold enN enOf orcOf; simp only; rw [hp]⟩

/-- What is told of a call holds of the program. -/
theorem Gives.sound (hm : P.follows .mixedOrders = true) {G : GP} (hpr : PrSound P G pr) {f : Nat} {xs : List X} {obs : List Ob} {an : An} (h : Gives P pr f xs obs an) : Sound P G f xs obs an := by
  obtain ⟨n, hn⟩ := h
  exact (en_of_code hpr (code_sound hm hpr n)).orc f xs obs an hn
end
end Go.Pe
namespace Go.Pe

section
variable (s : S) (d j : Nat) (x : X) (t : Tk)
theorem Z6w : (s.put (some d) x).fr j = if j = d then x else s.fr j := rfl
theorem Z6y (d : Option Nat) : (s.put d x).objs = s.objs := by cases d <;> rfl
theorem Z6v (d : Option Nat) : (s.put d x).clk = s.clk := by cases d <;> rfl
theorem Z6x : s.put none x = s := rfl
theorem Z31 : (s.drop (some t)).fr j = (s.fr j).drop t := rfl
theorem Z32 : (s.drop (some t)).objs = s.objs.map (Ob.drop t) := rfl
theorem Z30 : (s.drop (some t)).clk = s.clk := rfl
theorem Z3i (n : Nat) : s.ev (.tmp n) = s.fr n := rfl
theorem Z3g (v : Value) : s.ev (.const v) = ofVal v := rfl
theorem Z3h (f : Nat) : s.ev (.func f) = .of (.fn f []) := rfl
end
theorem Z63 (k : IntKind) (n : Int) : ofVal (.int k n) = .of (.lit (.int k n)) := rfl
theorem Z62 (b : Bool) : ofVal (.bool b) = .of (.lit (.bool b)) := rfl
theorem Z67 (b : ByteArray) : ofVal (.string b) = .of (.lit (.string b)) := rfl
theorem Z65 : ofVal (.slice none 0 0) = .nil := rfl
theorem Z66 : ofVal (.pointer none) = .of (.lit (.pointer none)) := rfl
theorem Z64 : ofVal (.map none) = .of (.lit (.map none)) := rfl

def initF : List X → Nat → X
  | [], _ => .of .undef
  | c :: _, 0 => c
  | _ :: cs, j + 1 => initF cs j
theorem Z42 (obs : List Ob) : ∀ (xs : List X) (j : Nat), (initS xs obs).fr j = initF xs j
  | [], j => rfl
  | c :: cs, 0 => rfl
  | c :: cs, j + 1 => by have := Z42 obs cs j; simpa [initS, initF] using this
theorem Z43 (xs : List X) (obs : List Ob) : (initS xs obs).objs = obs := rfl
theorem Z41 (xs : List X) (obs : List Ob) : (initS xs obs).clk = 1 := rfl
theorem Z3y (j : Nat) : initF [] j = .of .undef := rfl
theorem Z40 (x : X) (xs : List X) : initF (x :: xs) 0 = x := rfl
theorem Z3z (x : X) (xs : List X) (j : Nat) : initF (x :: xs) (j + 1) = initF xs j := rfl

theorem Z8q (P : Program) (pr : Pr) (b : Code) (Q : Ex → S → Prop) (s : S) : thenQ P pr b Q .normal s ↔ WC P pr b s Q := Iff.rfl
theorem Z8p (P : Program) (pr : Pr) (b : Code) (Q : Ex → S → Prop) (i : Nat) (s : S) : thenQ P pr b Q (.exit i) s ↔ Q (.exit i) s := Iff.rfl
theorem Z8s (P : Program) (pr : Pr) (b : Code) (Q : Ex → S → Prop) (s : S) : thenQ P pr b Q .ret s ↔ Q .ret s := Iff.rfl
theorem Z8r (P : Program) (pr : Pr) (b : Code) (Q : Ex → S → Prop) (x : X) (s : S) : thenQ P pr b Q (.pan x) s ↔ Q (.pan x) s := Iff.rfl
theorem Z24 (i : Nat) (Q : Ex → S → Prop) (x : X) (s : S) : blockQ i Q (.pan x) s ↔ Q (.pan x) s := Iff.rfl
theorem Z23 (i : Nat) (Q : Ex → S → Prop) (s : S) : blockQ i Q .normal s ↔ Q .normal s := Iff.rfl
theorem Z22 (i j : Nat) (Q : Ex → S → Prop) (s : S) : blockQ i Q (.exit j) s ↔ if j = i then Q .normal s else Q (.exit j) s := Iff.rfl
theorem Z25 (i : Nat) (Q : Ex → S → Prop) (s : S) : blockQ i Q .ret s ↔ Q .ret s := Iff.rfl
def S.tk (s : S) : S := { s with clk := s.clk + 1 }
theorem Z8u (s : S) (j : Nat) : s.tk.fr j = s.fr j := rfl
theorem Z8v (s : S) : s.tk.objs = s.objs := rfl
theorem Z8t (s : S) : s.tk.clk = s.clk + 1 := rfl
theorem Z7g (Q : Ex → S → Prop) (s : S) : regQ Q none s ↔ Q .normal s.tk := Iff.rfl
theorem Z7h (Q : Ex → S → Prop) (x : X) (s : S) : regQ Q (some x) s ↔ Q (.pan x) s.tk := Iff.rfl
theorem Z5j (F : S → Prop) (Q : Option X → S → Prop) (s : S) : nextQ F Q none s ↔ F s := Iff.rfl
theorem Z5k (F : S → Prop) (Q : Option X → S → Prop) (x : X) (s : S) : nextQ F Q (some x) s ↔ Q (some x) s := Iff.rfl
theorem Z2t (b : Bool) (p q : Prop) : condQ (some b) p q ↔ if b = true then p else q := Iff.rfl
theorem Z3s (ops : Array Oper) (s : S) (d : Option Nat) (op : Op) (ty : Nat) (pos : String) (af : Array Edge) : guardOk ops s ⟨d, op, ty, pos, af, none⟩ = some true := rfl

def guardV (want : Bool) : X → Option Bool
  | .of (.lit (.bool b)) => some (b == want)
  | .of .undef => some false
  | _ => none
def guardD (s : S) (want : Bool) : Option Nat → Option Bool
  | some d => guardV want (s.fr d)
  | none => some false
theorem Z3t (ops : Array Oper) (s : S) (d : Option Nat) (op : Op) (ty : Nat) (pos : String) (af : Array Edge) (j : Nat) (want : Bool) :
    guardOk ops s ⟨d, op, ty, pos, af, some (j, want)⟩ = guardD s want ((ops[j]?).bind (·.dst)) := by
  simp only [guardOk]
  cases (ops[j]?).bind (·.dst) with
  | none => rfl
  | some d => rfl
theorem Z3r (s : S) (want : Bool) (d : Nat) : guardD s want (some d) = guardV want (s.fr d) := rfl
theorem Z3u (want b : Bool) : guardV want (.of (.lit (.bool b))) = some (b == want) := rfl
theorem Z3v (want : Bool) : guardV want (.of .undef) = some false := rfl

theorem Z6g (s : S) (d : Option Nat) (af : Array Edge) (K : S → Prop) (x : X) : outK s d af K (out x) ↔ K (s.put d x) := Iff.rfl
theorem Z6h (s : S) (d : Option Nat) (af : Array Edge) (K : S → Prop) (x : X) : outK s d af K (outO (some x)) ↔ K (s.put d x) := Iff.rfl
theorem Z6i (s : S) (d : Option Nat) (af : Array Edge) (K : S → Prop) (x : X) (t : Tk) : outK s d af K (some (x, some t)) ↔ okTk s.clk af.toList (some t) = true ∧ K ((s.drop (some t)).put d x) := Iff.rfl
theorem Z6f (s : S) (d : Option Nat) (af : Array Edge) (K : S → Prop) (x : X) : outK s d af K (some (x, none)) ↔ K (s.put d x) := Iff.rfl
theorem Z3w (b : Bool) (p q : Prop) : guardQ (some b) p q ↔ if b = true then p else q := by cases b <;> simp [guardQ]

theorem Zw (P : Program) (pr : Pr) (id : Nat) (l : List Oper) (s : S) (Q : Ex → S → Prop) : WC P pr (.region id l.toArray false) s Q ↔ WO P pr false l.toArray 0 l s (regQ Q) := WC_regionF id l.toArray s Q
theorem Zx (P : Program) (pr : Pr) (id : Nat) (l : List Oper) (s : S) (Q : Ex → S → Prop) : WC P pr (.region id l.toArray true) s Q ↔ if spB pr.obj l = true then WS P pr l.toArray l s (regQ Q) else WO P pr true l.toArray 0 l s (regQ Q) := WC_regionT id l.toArray s Q
theorem Z6k (Q : Option X → S → Prop) (s : S) : pan0 Q none s = Q none s := rfl
theorem Z7x (obj : Nat → Bool) (l : List Oper) : spB obj l = (mkFirst obj l || stLast l) := rfl
theorem Z4q (obj : Nat → Bool) (d : Option Nat) (o : Op) (ty : Nat) (po : String) (af : Array Edge) (g : Option (Nat × Bool)) (r : List Oper) : mkFirst obj (⟨d, o, ty, po, af, g⟩ :: r) = (isMkOp obj o && g.isNone) := rfl
theorem Z7y (a b : Oper) (l : List Oper) : stLast (a :: b :: l) = stLast (b :: l) := rfl
theorem Z7z (d : Option Nat) (o : Op) (ty : Nat) (po : String) (af : Array Edge) (g : Option (Nat × Bool)) : stLast [⟨d, o, ty, po, af, g⟩] = (isStOp o && g.isNone) := rfl
theorem Z8i (t : Nat) (a x : Operand) : isStOp (.store t a x) = true := rfl
theorem Z84 (c : Call) : isStOp (.call c) = false := rfl
theorem Z5a (obj : Nat → Bool) (t : Nat) (a x : Operand) : isMkOp obj (.store t a x) = false := rfl
theorem Z4v (obj : Nat → Bool) (g : Nat) (tys : Array Nat) : isMkOp obj (.call { callee := .value (.func g), args := #[], argTypes := tys }) = obj g := rfl
theorem Z4w (obj : Nat → Bool) (c : Callee) (a : Operand) (l : List Operand) (tys : Array Nat) : isMkOp obj (.call { callee := c, args := (a :: l).toArray, argTypes := tys }) = false := by
  unfold isMkOp
  split
  · rename_i h
    cases h
    rfl
  · rfl
theorem Z8e : ∀ x0, isStOp (.move x0) = false := fun _ => rfl
theorem Z56 (obj : Nat → Bool) : ∀ x0, isMkOp obj (.move x0) = false := fun _ => rfl
theorem Z80 : ∀ x0, isStOp (.assign x0) = false := fun _ => rfl
theorem Z4r (obj : Nat → Bool) : ∀ x0, isMkOp obj (.assign x0) = false := fun _ => rfl
theorem Z8g : ∀ x0 x1 x2, isStOp (.pick x0 x1 x2) = false := fun _ _ _ => rfl
theorem Z58 (obj : Nat → Bool) : ∀ x0 x1 x2, isMkOp obj (.pick x0 x1 x2) = false := fun _ _ _ => rfl
theorem Z81 : ∀ x0 x1 x2 x3 x4, isStOp (.binOp x0 x1 x2 x3 x4) = false := fun _ _ _ _ _ => rfl
theorem Z4s (obj : Nat → Bool) : ∀ x0 x1 x2 x3 x4, isMkOp obj (.binOp x0 x1 x2 x3 x4) = false := fun _ _ _ _ _ => rfl
theorem Z8j : ∀ x0 x1 x2, isStOp (.unOp x0 x1 x2) = false := fun _ _ _ => rfl
theorem Z5b (obj : Nat → Bool) : ∀ x0 x1 x2, isMkOp obj (.unOp x0 x1 x2) = false := fun _ _ _ => rfl
theorem Z8b : ∀ x0 x1, isStOp (.load x0 x1) = false := fun _ _ => rfl
theorem Z53 (obj : Nat → Bool) : ∀ x0 x1, isMkOp obj (.load x0 x1) = false := fun _ _ => rfl
theorem Z88 : ∀ x0 x1 x2, isStOp (.fieldAddr x0 x1 x2) = false := fun _ _ _ => rfl
theorem Z50 (obj : Nat → Bool) : ∀ x0 x1 x2, isMkOp obj (.fieldAddr x0 x1 x2) = false := fun _ _ _ => rfl
theorem Z87 : ∀ x0 x1 x2, isStOp (.field x0 x1 x2) = false := fun _ _ _ => rfl
theorem Z4z (obj : Nat → Bool) : ∀ x0 x1 x2, isMkOp obj (.field x0 x1 x2) = false := fun _ _ _ => rfl
theorem Z8a : ∀ x0 x1 x2, isStOp (.indexAddr x0 x1 x2) = false := fun _ _ _ => rfl
theorem Z52 (obj : Nat → Bool) : ∀ x0 x1 x2, isMkOp obj (.indexAddr x0 x1 x2) = false := fun _ _ _ => rfl
theorem Z89 : ∀ x0 x1 x2, isStOp (.index x0 x1 x2) = false := fun _ _ _ => rfl
theorem Z51 (obj : Nat → Bool) : ∀ x0 x1 x2, isMkOp obj (.index x0 x1 x2) = false := fun _ _ _ => rfl
theorem Z8h : ∀ x0 x1 x2 x3 x4, isStOp (.slice x0 x1 x2 x3 x4) = false := fun _ _ _ _ _ => rfl
theorem Z59 (obj : Nat → Bool) : ∀ x0 x1 x2 x3 x4, isMkOp obj (.slice x0 x1 x2 x3 x4) = false := fun _ _ _ _ _ => rfl
theorem Z82 : ∀ x0 x1, isStOp (.build x0 x1) = false := fun _ _ => rfl
theorem Z4t (obj : Nat → Bool) : ∀ x0 x1, isMkOp obj (.build x0 x1) = false := fun _ _ => rfl
theorem Z83 : ∀ x0 x1 x2, isStOp (.buildSlice x0 x1 x2) = false := fun _ _ _ => rfl
theorem Z4u (obj : Nat → Bool) : ∀ x0 x1 x2, isMkOp obj (.buildSlice x0 x1 x2) = false := fun _ _ _ => rfl
theorem Z86 : ∀ x0 x1, isStOp (.extract x0 x1) = false := fun _ _ => rfl
theorem Z4y (obj : Nat → Bool) : ∀ x0 x1, isMkOp obj (.extract x0 x1) = false := fun _ _ => rfl
theorem Z8f : ∀ x0, isStOp (.nilCheck x0) = false := fun _ => rfl
theorem Z57 (obj : Nat → Bool) : ∀ x0, isMkOp obj (.nilCheck x0) = false := fun _ => rfl
theorem Z85 : ∀ x0 x1 x2, isStOp (.convert x0 x1 x2) = false := fun _ _ _ => rfl
theorem Z4x (obj : Nat → Bool) : ∀ x0 x1 x2, isMkOp obj (.convert x0 x1 x2) = false := fun _ _ _ => rfl
theorem Z8c : ∀ x0 x1 x2 x3, isStOp (.lookup x0 x1 x2 x3) = false := fun _ _ _ _ => rfl
theorem Z54 (obj : Nat → Bool) : ∀ x0 x1 x2 x3, isMkOp obj (.lookup x0 x1 x2 x3) = false := fun _ _ _ _ => rfl
theorem Z8d : ∀ x0 x1, isStOp (.makeInterface x0 x1) = false := fun _ _ => rfl
theorem Z55 (obj : Nat → Bool) : ∀ x0 x1, isMkOp obj (.makeInterface x0 x1) = false := fun _ _ => rfl

theorem guardQ_cg {g g' : Option Bool} (p q : Prop) (h : Unit → g = g') : guardQ g p q = guardQ g' p q := by rw [h ()]
theorem condQ_cg {g g' : Option Bool} (p q : Prop) (h : Unit → g = g') : condQ g p q = condQ g' p q := by rw [h ()]
theorem outK_cg (s : S) (d : Option Nat) (af : Array Edge) (K : S → Prop) {v v' : Out} (h : Unit → v = v') : outK s d af K v = outK s d af K v' := by rw [h ()]
theorem optQ_cg (Q : S → Prop) {v v' : Option S} (h : Unit → v = v') : optQ Q v = optQ Q v' := by rw [h ()]
theorem CallK_cg (P : Program) (pr : Pr) (f : Nat) {xs xs' : List X} {obs obs' : List Ob} (K : An → Prop) (h : Unit → xs = xs') (h' : Unit → obs = obs') : CallK P pr f xs obs K = CallK P pr f xs' obs' K := by rw [h (), h' ()]
theorem callB_cg (P : Program) (pr : Pr) (dr : Bool) (s : S) (k : Nat) (d : Option Nat) (Q : Option X → S → Prop) (f : Nat) {us us' : List X} (caps : List C) {cs cs' : Option (List C)} {b b' : Bool} (h1 : Unit → us = us') (h2 : Unit → cs = cs') (h3 : Unit → b = b') :
    callB P pr dr s k d Q f us caps cs b = callB P pr dr s k d Q f us' caps cs' b' := by rw [h1 (), h2 (), h3 ()]
theorem callT_cg (P : Program) (pr : Pr) (dr : Bool) (s : S) (k : Nat) (d : Option Nat) (Q : Option X → S → Prop) {us us' : List X} {cs cs' : Option (List C)} {x x' : X} (h1 : Unit → us = us') (h2 : Unit → cs = cs') (h3 : Unit → x = x') :
    callT P pr dr s k d Q us cs x = callT P pr dr s k d Q us' cs' x' := by rw [h1 (), h2 (), h3 ()]
theorem plainQ_cg (P : Program) (pr : Pr) (s : S) (k : Nat) (d : Option Nat) (Q : Option X → S → Prop) (f : Nat) (caps : List C) {cs cs' : Option (List C)} (h : Unit → cs = cs') : plainQ P pr s k d Q f caps cs = plainQ P pr s k d Q f caps cs' := by rw [h ()]
theorem objQ1_cg (P : Program) (pr : Pr) (s : S) (k : Nat) (d : Option Nat) (Q : Option X → S → Prop) (f : Nat) {us us' : List X} {refs refs' : List Nat} {ts ts' : List Tk} (h1 : Unit → us = us') (h2 : Unit → refs = refs') (h3 : Unit → ts = ts') :
    objQ1 P pr s k d Q f us refs ts = objQ1 P pr s k d Q f us' refs' ts' := by rw [h1 (), h2 (), h3 ()]
theorem objQ2_cg (P : Program) (pr : Pr) (s : S) (k : Nat) (d : Option Nat) (refs : List Nat) (ts : List Tk) (Q : Option X → S → Prop) (f : Nat) (us : List X) {obs obs' : Option (List Ob)} (h1 : Unit → obs = obs') :
    objQ2 P pr s k d refs ts Q f us obs = objQ2 P pr s k d refs ts Q f us obs' := by rw [h1 ()]
theorem panQ_cg (Q : Option X → S → Prop) (s : S) {c c' : Option C} (h : Unit → c = c') : panQ Q s c = panQ Q s c' := by rw [h ()]
attribute [congr] guardQ_cg condQ_cg outK_cg optQ_cg CallK_cg callB_cg callT_cg plainQ_cg objQ1_cg objQ2_cg panQ_cg

section
variable (P : Program) (T : TT) (t : Nat) (u : Option TypeDesc) (k : IntKind) (a b : Int)
theorem Z1r : binX P T t u .lss (.of (.lit (.int k a))) (.of (.lit (.int k b))) = out (xbool (decide (a < b))) := by simp [binX, litOf, binLit, binInt, outO, out]
theorem Z1q : binX P T t u .leq (.of (.lit (.int k a))) (.of (.lit (.int k b))) = out (xbool (decide (a ≤ b))) := by simp [binX, litOf, binLit, binInt, outO, out]
theorem Z1p : binX P T t u .gtr (.of (.lit (.int k a))) (.of (.lit (.int k b))) = out (xbool (decide (b < a))) := by simp [binX, litOf, binLit, binInt, outO, out]
theorem Z1o : binX P T t u .geq (.of (.lit (.int k a))) (.of (.lit (.int k b))) = out (xbool (decide (b ≤ a))) := by simp [binX, litOf, binLit, binInt, outO, out]
theorem Z1n : binX P T t u .eql (.of (.lit (.int k a))) (.of (.lit (.int k b))) = out (xbool (decide (a = b))) := by simp [binX, litOf, binLit, binInt, outO, out]
theorem Z1t : binX P T t u .neq (.of (.lit (.int k a))) (.of (.lit (.int k b))) = out (xbool (!decide (a = b))) := by simp [binX, litOf, binLit, binInt, outO, out]
theorem Z1k : binX P T t u .add (.of (.lit (.int k a))) (.of (.lit (.int k b))) = out (.of (.lit (.int k (k.wrap (a + b))))) := by simp [binX, litOf, binLit, binInt, outO, out]
theorem Z1x : binX P T t u .sub (.of (.lit (.int k a))) (.of (.lit (.int k b))) = out (.of (.lit (.int k (k.wrap (a - b))))) := by simp [binX, litOf, binLit, binInt, outO, out]
theorem Z1s : binX P T t u .mul (.of (.lit (.int k a))) (.of (.lit (.int k b))) = out (.of (.lit (.int k (k.wrap (a * b))))) := by simp [binX, litOf, binLit, binInt, outO, out]
theorem Z1v (x y : ByteArray) : binX P T t u .eql (.of (.lit (.string x))) (.of (.lit (.string y))) = out (xbool (decide (x = y))) := by simp [binX, litOf, binLit, binStr, outO, out]
theorem Z1w (x y : ByteArray) : binX P T t u .neq (.of (.lit (.string x))) (.of (.lit (.string y))) = out (xbool (!decide (x = y))) := by simp [binX, litOf, binLit, binStr, outO, out]
theorem Z1u (x y : ByteArray) : binX P T t u .add (.of (.lit (.string x))) (.of (.lit (.string y))) = if x.size + y.size ≤ SLIM then out (xstr (x ++ y)) else none := by
  simp only [binX, litOf, binLit, binStr]
  split <;> rfl
theorem Z1l (x y : Bool) : binX P T t (some .bool) .eql (.of (.lit (.bool x))) (.of (.lit (.bool y))) = out (xbool (x == y)) := by simp [binX, litOf, binLit, binBool, isBoolD, outO, out]
theorem Z1m (x y : Bool) : binX P T t (some .bool) .neq (.of (.lit (.bool x))) (.of (.lit (.bool y))) = out (xbool (!(x == y))) := by simp [binX, litOf, binLit, binBool, isBoolD, outO, out]
theorem Z9n (b : Bool) : unX .not (.of (.lit (.bool b))) = out (xbool (!b)) := rfl
theorem Z9m : unX .neg (.of (.lit (.int k a))) = out (.of (.lit (.int k (k.wrap (0 - a))))) := rfl
end
theorem Z4h (b : Bool) : litBool (.of (.lit (.bool b))) = some b := rfl
theorem Z4i (n : Int) : litInt (.of (.lit (.int .i64 n))) = some n := rfl
theorem Z4p (m n : Int) : minX (.of (.lit (.int .i64 m))) (.of (.lit (.int .i64 n))) = out (xint (if n < m then n else m)) := rfl
theorem Z4j (v : Value) : litOf (.of (.lit v)) = some v := rfl
theorem Z6q (s : S) (x y : Operand) (b : Bool) : pickO s x y (some b) = out (if b = true then s.ev x else s.ev y) := rfl
theorem Z4f (s : ByteArray) : lenX (some .string) (.of (.lit (.string s))) = out (xint s.size) := rfl
theorem Z4e (e : Nat) (cs : List C) (n : Nat) : lenX (some (.slice e)) (.of (.sl cs n)) = out (xint n) := rfl
theorem Z4d (e : Nat) (t : Tk) (e' z : Nat) (cs : List C) (n : Nat) : lenX (some (.slice e)) (.own t e' z cs n) = out (xint n) := rfl
theorem Z4c (e : Nat) : lenX (some (.slice e)) .nil = out (xint 0) := rfl
theorem Z6e (s : S) (d : Option Nat) (af : Array Edge) (K : S → Prop) (c : Prop) [Decidable c] (v : Out) : outK s d af K (if c then v else none) ↔ c ∧ outK s d af K v := by
  split
  · simp [*]
  · simp [*, outK]
theorem Z1a (cs : List C) (n : Nat) : asSl (.of (.sl cs n)) = some (cs, n) := rfl
theorem Z1b (t : Tk) (e z : Nat) (cs : List C) (n : Nat) : asSl (.own t e z cs n) = some (cs, n) := rfl
theorem Z19 : asSl .nil = some ([], 0) := rfl
theorem Z72 (c : C) : X.rd (.of c) = some c := rfl
theorem Z73 (t : Tk) (e z : Nat) (cs : List C) (n : Nat) : X.rd (.own t e z cs n) = some (.sl cs n) := rfl
theorem Z71 : X.rd .nil = some (.sl [] 0) := rfl
theorem Z70 (f : Operand → X) : rdAll f [] = some [] := rfl
def consO (c : Option C) (cs : Option (List C)) : Option (List C) := match c, cs with
  | some c, some cs => some (c :: cs)
  | _, _ => none
theorem Z6z (f : Operand → X) (x : Operand) (r : List Operand) : rdAll f (x :: r) = consO (f x).rd (rdAll f r) := by
  simp only [rdAll, consO]
  cases (f x).rd <;> cases rdAll f r <;> rfl
theorem Z2u (c : C) (cs : List C) : consO (some c) (some cs) = some (c :: cs) := rfl
theorem Z26 (P : Program) (pr : Pr) (dr : Bool) (s : S) (k : Nat) (d : Option Nat) (Q : Option X → S → Prop) (f : Nat) (us : List X) (caps : List C) (cs : Option (List C)) : callB P pr dr s k d Q f us caps cs false ↔ plainQ P pr s k d Q f caps cs := Iff.rfl
theorem Z27 (P : Program) (pr : Pr) (dr : Bool) (s : S) (k : Nat) (d : Option Nat) (Q : Option X → S → Prop) (f : Nat) (us : List X) (caps : List C) (cs : Option (List C)) : callB P pr dr s k d Q f us caps cs true ↔ dr = false ∧ objQ1 P pr s k d Q f us (reach s.objs 999 (X.refsL us) []) (toksB (pr.tk f) us) := Iff.rfl
theorem Z29 (P : Program) (pr : Pr) (dr : Bool) (s : S) (k : Nat) (d : Option Nat) (Q : Option X → S → Prop) (args : List X) (cs : Option (List C)) (f : Nat) (caps : List C) : callT P pr dr s k d Q args cs (.of (.fn f caps)) ↔ callB P pr dr s k d Q f (args ++ caps.map .of) caps cs (pr.obj f) := Iff.rfl
theorem Z28 (P : Program) (pr : Pr) (dr : Bool) (s : S) (k : Nat) (d : Option Nat) (Q : Option X → S → Prop) (args : List X) (cs : Option (List C)) (f : Nat) (caps : List X) : callT P pr dr s k d Q args cs (.clo f caps) ↔ pr.obj f = true ∧ dr = false ∧ objQ1 P pr s k d Q f (args ++ caps) (reach s.objs 999 (X.refsL (args ++ caps)) []) (toksB (pr.tk f) (args ++ caps)) := Iff.rfl
theorem Z6s (P : Program) (pr : Pr) (s : S) (k : Nat) (d : Option Nat) (Q : Option X → S → Prop) (f : Nat) (caps cs : List C) : plainQ P pr s k d Q f caps (some cs) ↔ callable P f = true ∧ CallK P pr f ((cs ++ caps).map .of) [] (plainK s k d Q) := Iff.rfl
/-- What is worked out first. -/
def letV {α : Type} (v : α) (K : α → Prop) : Prop := K v
theorem letV_cg {α : Type} {v v' : α} (K : α → Prop) (h : Unit → v = v') : letV v K = letV v' K := by rw [h ()]
attribute [congr] letV_cg
theorem Z4g {α : Type} (v : α) (K : α → Prop) : letV v K ↔ K v := Iff.rfl
theorem Z6r (s : S) (k : Nat) (d : Option Nat) (Q : Option X → S → Prop) (rs : List X) : plainK s k d Q ⟨false, rs, []⟩ ↔ letV (oneX (nameX s.clk k rs)) fun x => Q none (s.put d x) := Iff.rfl
theorem Z5w (P : Program) (pr : Pr) (s : S) (k : Nat) (d : Option Nat) (Q : Option X → S → Prop) (f : Nat) (us : List X) (refs : List Nat) (ts : List Tk) : objQ1 P pr s k d Q f us refs ts ↔ objQ2 P pr s k d refs ts Q f us (pickObs (pos refs) (rhoIn refs ts) (dropTs ts s.objs) refs) := Iff.rfl
theorem Z5x (P : Program) (pr : Pr) (s : S) (k : Nat) (d : Option Nat) (refs : List Nat) (ts : List Tk) (Q : Option X → S → Prop) (f : Nat) (us : List X) (obs : List Ob) : objQ2 P pr s k d refs ts Q f us (some obs) ↔ callable P f = true ∧ CallK P pr f (X.trs (pos refs) (rhoIn refs ts) us) obs (backQ s k d refs ts Q) := Iff.rfl
/-- The slots behind a call. -/
def S.bfr (s : S) (refs : List Nat) (ts : List Tk) : S := { s with fr := fun j => (s.fr j).tr some (keepTk refs ts) }
def S.withO (s : S) (objs : List Ob) : S := { s with objs := objs }
/-- The objects behind a call. -/
def backO (refs : List Nat) (ts : List Tk) (clk k : Nat) (objs obs : List Ob) : List Ob := setObs (fun i => some (sigBack refs objs.length i)) (rhoBack refs objs.length clk k) (objs.map (Ob.tr some (keepTk refs ts))) refs obs ++ (obs.drop refs.length).map (Ob.tr (fun i => some (sigBack refs objs.length i)) (rhoBack refs objs.length clk k))
theorem Z1e (refs : List Nat) (ts : List Tk) (clk k : Nat) (objs obs : List Ob) : backO refs ts clk k objs obs = setObs (fun i => some (sigBack refs objs.length i)) (rhoBack refs objs.length clk k) (objs.map (Ob.tr some (keepTk refs ts))) refs obs ++ (obs.drop refs.length).map (Ob.tr (fun i => some (sigBack refs objs.length i)) (rhoBack refs objs.length clk k)) := rfl
theorem Z1f (s : S) (k : Nat) (d : Option Nat) (refs : List Nat) (ts : List Tk) (Q : Option X → S → Prop) (rs : List X) (obs : List Ob) (h : refs.length ≤ obs.length) :
    backQ s k d refs ts Q ⟨false, rs, obs⟩ ↔ letV (backO refs ts s.clk k s.objs obs) fun o => letV (oneX (X.trs (fun i => some (sigBack refs s.objs.length i)) (rhoBack refs s.objs.length s.clk k) rs)) fun x => Q none (((s.bfr refs ts).withO o).put d x) := by
  unfold backQ backS
  rw [if_pos h]
  rfl
theorem Z1g (s : S) (k : Nat) (d : Option Nat) (refs : List Nat) (ts : List Tk) (Q : Option X → S → Prop) (x : X) (obs : List Ob) (h : refs.length ≤ obs.length) :
    backQ s k d refs ts Q ⟨true, [x], obs⟩ ↔ letV (backO refs ts s.clk k s.objs obs) fun o => Q (some (x.tr (fun i => some (sigBack refs s.objs.length i)) (rhoBack refs s.objs.length s.clk k))) ((s.bfr refs ts).withO o) := by
  unfold backQ backS
  rw [if_pos h]
  rfl
theorem Z1i (s : S) (refs : List Nat) (ts : List Tk) (j : Nat) : (s.bfr refs ts).fr j = (s.fr j).tr some (keepTk refs ts) := rfl
theorem Z1h (s : S) (refs : List Nat) (ts : List Tk) : (s.bfr refs ts).clk = s.clk := rfl
theorem Z1j (s : S) (refs : List Nat) (ts : List Tk) : (s.bfr refs ts).objs = s.objs := rfl
section
variable (σ : Nat → Option Nat) (ρ : Tk → Option Tk)
theorem Z9g (c : C) : (X.of c).tr σ ρ = .of c := rfl
theorem Z9f : X.nil.tr σ ρ = .nil := rfl
theorem Z9c (xs : List X) : (X.agg xs).tr σ ρ = .agg (X.trs σ ρ xs) := rfl
theorem Z9j (xs : List X) : (X.tup xs).tr σ ρ = .tup (X.trs σ ρ xs) := rfl
theorem Z9d (f : Nat) (xs : List X) : (X.clo f xs).tr σ ρ = .clo f (X.trs σ ρ xs) := rfl
def trP (off : Nat) : Option Nat → X
  | some r => .ptr r off
  | none => .of .any
def trM : Option Nat → X
  | some r => .mp r
  | none => .of .any
def trO (e z : Nat) (cs : List C) (n : Nat) : Option Tk → X
  | some t => .own t e z cs n
  | none => .of (.sl cs n)
theorem Z9i (r off : Nat) : (X.ptr r off).tr σ ρ = trP off (σ r) := by simp only [X.tr, trP]; cases σ r <;> rfl
theorem Z9e (r : Nat) : (X.mp r).tr σ ρ = trM (σ r) := by simp only [X.tr, trM]; cases σ r <;> rfl
theorem Z9h (t : Tk) (e z : Nat) (cs : List C) (n : Nat) : (X.own t e z cs n).tr σ ρ = trO e z cs n (ρ t) := by simp only [X.tr, trO]; cases ρ t <;> rfl
theorem Z9l : X.trs σ ρ [] = [] := rfl
theorem Z9k (x : X) (xs : List X) : X.trs σ ρ (x :: xs) = x.tr σ ρ :: X.trs σ ρ xs := rfl
theorem Z61 (ty : Nat) (xs : List X) : (Ob.var ty xs).tr σ ρ = .var ty (X.trs σ ρ xs) := rfl
theorem Z60 (es : List (Value × C)) : (Ob.map es).tr σ ρ = .map es := rfl
end
theorem Z9b (off r : Nat) : trP off (some r) = .ptr r off := rfl
theorem Z98 (r : Nat) : trM (some r) = .mp r := rfl
theorem Z9a (e z : Nat) (cs : List C) (n : Nat) (t : Tk) : trO e z cs n (some t) = .own t e z cs n := rfl
theorem Z99 (e z : Nat) (cs : List C) (n : Nat) : trO e z cs n none = .of (.sl cs n) := rfl
theorem Z5i (c k : Nat) : nameX c k [] = [] := rfl
theorem Z5h (c k : Nat) (x : X) (xs : List X) : nameX c k (x :: xs) = x.tr (fun _ => none) (nameTk c k) :: nameX c k xs := rfl
theorem Z5g (c k i : Nat) : nameTk c k (.nm 0 0 i) = some (.nm c k i) := rfl
theorem Z6u {α : Type} [DecidableEq α] (a : α) : pos [] a = none := rfl
theorem Z6t {α : Type} [DecidableEq α] (b : α) (l : List α) (a : α) : pos (b :: l) a = if b = a then some 0 else (pos l a).map (· + 1) := rfl
def rhoC (refs : List Nat) : Tk → Option Tk
  | .cell r off => (pos refs r).map fun r' => .cell r' off
  | .nm .. => none
def rhoP (refs : List Nat) (t : Tk) : Option Nat → Option Tk
  | some i => some (.nm 0 0 i)
  | none => rhoC refs t
theorem Z7n (refs : List Nat) (ts : List Tk) (t : Tk) : rhoIn refs ts t = rhoP refs t (pos ts t) := by
  unfold rhoIn rhoP rhoC
  cases pos ts t <;> rfl
theorem Z7q (refs : List Nat) (t : Tk) (i : Nat) : rhoP refs t (some i) = some (.nm 0 0 i) := rfl
theorem Z7o (refs : List Nat) (r off : Nat) : rhoP refs (.cell r off) none = (pos refs r).map fun r' => .cell r' off := rfl
theorem Z7p (refs : List Nat) (a b c : Nat) : rhoP refs (.nm a b c) none = none := rfl
theorem Z44 (refs : List Nat) (ts : List Tk) (r off : Nat) : keepTk refs ts (.cell r off) = if Tk.cell r off ∈ ts then none else if r ∈ refs then none else some (.cell r off) := rfl
theorem Z45 (refs : List Nat) (ts : List Tk) (a b c : Nat) : keepTk refs ts (.nm a b c) = if Tk.nm a b c ∈ ts then none else some (.nm a b c) := rfl
theorem Z7w (r : Nat) (refs : List Nat) (L : Nat) : sigBack (r :: refs) L 0 = r := rfl
theorem Z7u (L i : Nat) : sigBack [] L i = L + i := rfl
theorem Z7v (r : Nat) (refs : List Nat) (L i : Nat) : sigBack (r :: refs) L (i + 1) = sigBack refs L i := by
  simp only [sigBack, List.getElem?_cons_succ, List.length_cons]
  cases refs[i]? with
  | some r => rfl
  | none => simp only; congr 1; omega
theorem Z7m (refs : List Nat) (L c k i : Nat) : rhoBack refs L c k (.nm 0 0 i) = some (.nm c k i) := rfl
theorem Z7l (refs : List Nat) (L c k r off : Nat) : rhoBack refs L c k (.cell r off) = some (.cell (sigBack refs L r) off) := rfl
theorem Z2z (objs : List Ob) : dropTs [] objs = objs := rfl
theorem Z2y (t : Tk) (ts : List Tk) (objs : List Ob) : dropTs (t :: ts) objs = objs.map (Ob.tr some fun t' => if t' ∈ t :: ts then none else some t') := rfl
def consOb : Option Ob → Option (List Ob) → Option (List Ob)
  | some a, some b => some (a :: b)
  | _, _ => none
theorem Z6p (σ : Nat → Option Nat) (ρ : Tk → Option Tk) (objs : List Ob) : pickObs σ ρ objs [] = some [] := rfl
theorem Z6o (σ : Nat → Option Nat) (ρ : Tk → Option Tk) (objs : List Ob) (r : Nat) (l : List Nat) : pickObs σ ρ objs (r :: l) = consOb ((objs[r]?).map (Ob.tr σ ρ)) (pickObs σ ρ objs l) := by
  simp only [pickObs, consOb]
  cases objs[r]? <;> cases pickObs σ ρ objs l <;> rfl
theorem Z2v (a : Ob) (b : List Ob) : consOb (some a) (some b) = some (a :: b) := rfl
theorem Z7t (σ : Nat → Option Nat) (ρ : Tk → Option Tk) (objs obs : List Ob) : setObs σ ρ objs [] obs = objs := by cases obs <;> rfl
theorem Z7s (σ : Nat → Option Nat) (ρ : Tk → Option Tk) (objs : List Ob) (r : Nat) (l : List Nat) (ob : Ob) (q : List Ob) : setObs σ ρ objs (r :: l) (ob :: q) = setObs σ ρ (objs.set r (ob.tr σ ρ)) l q := rfl
theorem Z75 (objs : List Ob) (n : Nat) (seen : List Nat) : reach objs n [] seen = seen := by cases n <;> rfl
theorem Z74 (objs : List Ob) (n r : Nat) (todo seen : List Nat) : reach objs (n + 1) (r :: todo) seen = if r ∈ seen then reach objs n todo seen else reach objs n (((objs[r]?).map Ob.refs).getD [] ++ todo) (seen ++ [r]) := rfl
theorem Z7c (c : C) : (X.of c).refs = [] := rfl
theorem Z7b : X.nil.refs = [] := rfl
theorem Z7d (t : Tk) (e z : Nat) (cs : List C) (n : Nat) : (X.own t e z cs n).refs = [] := rfl
theorem Z7e (r o : Nat) : (X.ptr r o).refs = [r] := rfl
theorem Z7a (r : Nat) : (X.mp r).refs = [r] := rfl
theorem Z79 (f : Nat) (xs : List X) : (X.clo f xs).refs = X.refsL xs := rfl
theorem Z78 (xs : List X) : (X.agg xs).refs = X.refsL xs := rfl
theorem Z7f (xs : List X) : (X.tup xs).refs = X.refsL xs := rfl
theorem Z77 : X.refsL [] = [] := rfl
theorem Z76 (x : X) (xs : List X) : X.refsL (x :: xs) = x.refs ++ X.refsL xs := rfl
theorem Z5z (ty : Nat) (xs : List X) : (Ob.var ty xs).refs = X.refsL xs := rfl
theorem Z5y (es : List (Value × C)) : (Ob.map es).refs = [] := rfl
theorem Z94 (c : C) : (X.of c).toks = [] := rfl
theorem Z93 : X.nil.toks = [] := rfl
theorem Z95 (t : Tk) (e z : Nat) (cs : List C) (n : Nat) : (X.own t e z cs n).toks = [t] := rfl
theorem Z96 (r o : Nat) : (X.ptr r o).toks = [] := rfl
theorem Z92 (r : Nat) : (X.mp r).toks = [] := rfl
theorem Z91 (f : Nat) (xs : List X) : (X.clo f xs).toks = X.toksL xs := rfl
theorem Z90 (xs : List X) : (X.agg xs).toks = X.toksL xs := rfl
theorem Z97 (xs : List X) : (X.tup xs).toks = X.toksL xs := rfl
theorem Z8z : X.toksL [] = [] := rfl
theorem Z8y (x : X) (xs : List X) : X.toksL (x :: xs) = x.toks ++ X.toksL xs := rfl
theorem Z8w (us : List X) : toksB false us = [] := rfl
theorem Z8x (us : List X) : toksB true us = nub (X.toksL us) [] := rfl
theorem Z5v {α : Type} [DecidableEq α] (seen : List α) : nub [] seen = seen := rfl
theorem Z5u {α : Type} [DecidableEq α] (a : α) (l seen : List α) : nub (a :: l) seen = if a ∈ seen then nub l seen else nub l (seen ++ [a]) := rfl
theorem Z6d (Q : S → Prop) (s : S) : optQ Q (some s) ↔ Q s := Iff.rfl
theorem Z15 (s : S) (d : Option Nat) (ty : Nat) (xs : List X) : allocO s d ty (some xs) = some (allocS s d ty xs) := rfl
theorem Z5p : noOwn [] = true := rfl
theorem Z5q (c : C) (xs : List X) : noOwn (.of c :: xs) = noOwn xs := rfl
theorem Z5o (xs : List X) : noOwn (.nil :: xs) = noOwn xs := rfl
theorem Z5s (r o : Nat) (xs : List X) : noOwn (.ptr r o :: xs) = noOwn xs := rfl
theorem Z5n (r : Nat) (xs : List X) : noOwn (.mp r :: xs) = noOwn xs := rfl
theorem Z5m (f : Nat) (l xs : List X) : noOwn (.clo f l :: xs) = noOwn xs := rfl
theorem Z5l (l xs : List X) : noOwn (.agg l :: xs) = noOwn xs := rfl
theorem Z5r (t : Tk) (e z : Nat) (cs : List C) (n : Nat) (xs : List X) : noOwn (.own t e z cs n :: xs) = false := rfl
theorem Z9p (s : S) (objs : List Ob) (j : Nat) : (s.withO objs).fr j = s.fr j := rfl
theorem Z9q (s : S) (objs : List Ob) : (s.withO objs).objs = objs := rfl
theorem Z9o (s : S) (objs : List Ob) : (s.withO objs).clk = s.clk := rfl
theorem Z8n (ρ : Tk → Option Tk) (s : S) (j : Nat) : (s.tr ρ).fr j = (s.fr j).tr some ρ := rfl
theorem Z8o (ρ : Tk → Option Tk) (s : S) : (s.tr ρ).objs = s.objs.map (Ob.tr some ρ) := rfl
theorem Z8m (ρ : Tk → Option Tk) (s : S) : (s.tr ρ).clk = s.clk := rfl
def layB (r off : Nat) (xs : List X) (s : S) : Bool → S
  | true => s
  | false => s.tr (moveTk r off xs.length (cellTks r off xs))
theorem Z16 (s : S) (d : Option Nat) (ty : Nat) (xs : List X) : allocS s d ty xs = (layB s.objs.length 0 xs (s.withO (s.objs ++ [Ob.var ty xs])) (noOwn xs)).put d (.ptr s.objs.length 0) := by
  unfold allocS layS layB S.withO
  cases noOwn xs <;> simp [noOwn]
def storeV (s : S) (d : Option Nat) (n r off : Nat) (xs : List X) : Option Ob → Option S
  | some (.var ty ys) => if xs.length = n ∧ off + xs.length ≤ ys.length then some ((layB r off xs (s.withO (s.objs.set r (Ob.var ty (ys.take off ++ xs ++ ys.drop (off + xs.length))))) (noOwn xs && noOwn ((ys.drop off).take xs.length))).put d (.of .undef)) else none
  | _ => none
theorem Z8k (s : S) (d : Option Nat) (td : TD) (r off : Nat) (xs : List X) : storeO s d (some td) (.ptr r off) (some xs) = storeV s d td.size r off xs (s.objs[r]?) := by
  simp only [storeO, storeS, storeV]
  cases s.objs[r]? with
  | none => rfl
  | some ob =>
    cases ob with
    | map es => rfl
    | var ty ys =>
      simp only
      split
      · simp only [Option.some.injEq]
        unfold layS layB S.withO
        cases noOwn xs <;> cases noOwn ((ys.drop off).take xs.length) <;> rfl
      · rfl
theorem Z8l (s : S) (d : Option Nat) (n r off ty : Nat) (xs ys : List X) (h : xs.length = n ∧ off + xs.length ≤ ys.length) : storeV s d n r off xs (some (.var ty ys)) = some ((layB r off xs (s.withO (s.objs.set r (Ob.var ty (ys.take off ++ xs ++ ys.drop (off + xs.length))))) (noOwn xs && noOwn ((ys.drop off).take xs.length))).put d (.of .undef)) := by
  simp only [storeV, if_pos h]
theorem Z47 (r off : Nat) (xs : List X) (s : S) : layB r off xs s true = s := rfl
theorem Z46 (r off : Nat) (xs : List X) (s : S) : layB r off xs s false = s.tr (moveTk r off xs.length (cellTks r off xs)) := rfl
def moveD (r off n : Nat) (t : Tk) : Option Tk → Option Tk
  | some t' => some t'
  | none => match t with
    | .cell r' o' => if r' = r ∧ off ≤ o' ∧ o' < off + n then none else some t
    | .nm .. => some t
theorem Z5f (r off n : Nat) (mv : List (Tk × Tk)) (t : Tk) : moveTk r off n mv t = moveD r off n t (assoc mv t) := by
  unfold moveTk moveD
  cases assoc mv t <;> rfl
theorem Z5e (r off n : Nat) (t t' : Tk) : moveD r off n t (some t') = some t' := rfl
theorem Z5c (r off n r' o' : Nat) : moveD r off n (.cell r' o') none = if r' = r ∧ off ≤ o' ∧ o' < off + n then none else some (.cell r' o') := rfl
theorem Z5d (r off n a b c : Nat) : moveD r off n (.nm a b c) none = some (.nm a b c) := rfl
theorem Z1d (t : Tk) : assoc [] t = none := rfl
theorem Z1c (a b : Tk) (l : List (Tk × Tk)) (t : Tk) : assoc ((a, b) :: l) t = if a = t then some b else assoc l t := rfl
theorem Z2d (r off : Nat) : cellTks r off [] = [] := rfl
theorem Z2f (r off : Nat) (t : Tk) (e z : Nat) (cs : List C) (n : Nat) (xs : List X) : cellTks r off (.own t e z cs n :: xs) = (t, .cell r off) :: cellTks r (off + 1) xs := rfl
theorem Z2e (r off : Nat) (c : C) (xs : List X) : cellTks r off (.of c :: xs) = cellTks r (off + 1) xs := rfl
theorem Z2c (r off : Nat) (xs : List X) : cellTks r off (.nil :: xs) = cellTks r (off + 1) xs := rfl
theorem Z2g (r off a b : Nat) (xs : List X) : cellTks r off (.ptr a b :: xs) = cellTks r (off + 1) xs := rfl
theorem Z2b (r off a : Nat) (xs : List X) : cellTks r off (.mp a :: xs) = cellTks r (off + 1) xs := rfl
theorem Z2a (r off a : Nat) (l xs : List X) : cellTks r off (.clo a l :: xs) = cellTks r (off + 1) xs := rfl
theorem Z6l (Q : Option X → S → Prop) (s : S) (t : Nat) (c : C) : panQ Q s (some (.ifc t c)) ↔ Q (some (.of (.ifc t c))) s := Iff.rfl
theorem Z3x (t : Nat) (c : C) : ifcX t true (some c) = out (.of (.ifc t c)) := rfl
def consX (x : Option X) (l : Option (List X)) : Option (List X) := match x, l with
  | some x, some l => some (x :: l)
  | _, _ => none
theorem Z7j (T : TT) (s : S) : resXs T s [] = some [] := rfl
theorem Z7k (T : TT) (s : S) (t : Nat) (r : List ResultVar) : resXs T s (.tmp t :: r) = (resXs T s r).map (s.fr t :: ·) := rfl
theorem Z7i (T : TT) (s : S) (a t : Nat) (r : List ResultVar) : resXs T s (.cell a t :: r) = consX ((loadX T s.objs t (s.fr a)).map (·.1)) (resXs T s r) := by
  simp only [resXs, consX]
  cases loadX T s.objs t (s.fr a) with
  | none => rfl
  | some p => cases resXs T s r <;> rfl
theorem Z2x (x : X) (l : List X) : consX (some x) (some l) = some (x :: l) := rfl
def leaveT (refs : List Nat) (rs : List X) : List Tk := (nub (X.toksL rs) []).filter fun t => match t with
    | .nm .. => true
    | .cell r _ => !decide (r ∈ refs)
def leave2 (refs : List Nat) (ts : List Tk) (pan : Bool) (rs : List X) (objs : List Ob) : Option An := (pickObs (pos refs) (rhoIn refs ts) objs refs).map fun obs => ⟨pan, X.trs (pos refs) (rhoIn refs ts) rs, obs⟩
def leave1 (refs : List Nat) (pan : Bool) (rs : List X) (objs : List Ob) : Option An := leave2 refs (leaveT refs rs) pan rs objs
theorem Z4b (m : Nat) (pan : Bool) (rs : List X) (objs : List Ob) : leave m pan rs objs = leave1 (reach objs 999 (X.refsL rs ++ ((objs.take m).map Ob.refs).flatten) (List.range m)) pan rs objs := rfl
theorem Z48 (refs : List Nat) (pan : Bool) (rs : List X) (objs : List Ob) : leave1 refs pan rs objs = leave2 refs (leaveT refs rs) pan rs objs := rfl
theorem Z49 (refs : List Nat) (ts : List Tk) (pan : Bool) (rs : List X) (objs : List Ob) : leave2 refs ts pan rs objs = (pickObs (pos refs) (rhoIn refs ts) objs refs).map fun obs => ⟨pan, X.trs (pos refs) (rhoIn refs ts) rs, obs⟩ := rfl
def filtT (refs : List Nat) : List Tk → List Tk
  | [] => []
  | .nm a b c :: l => .nm a b c :: filtT refs l
  | .cell r o :: l => if r ∈ refs then filtT refs l else .cell r o :: filtT refs l
theorem Z4a (refs : List Nat) (rs : List X) : leaveT refs rs = filtT refs (nub (X.toksL rs) []) := by
  unfold leaveT
  generalize nub (X.toksL rs) [] = l
  induction l with
  | nil => rfl
  | cons t l ih =>
    cases t with
    | nm a b c => rw [List.filter_cons_of_pos (by rfl), ih]; rfl
    | cell r o =>
      simp only [filtT]
      split
      · rename_i h; rw [List.filter_cons_of_neg (by simp [h]), ih]
      · rename_i h; rw [List.filter_cons_of_pos (by simp [h]), ih]
theorem Z3o (refs : List Nat) : filtT refs [] = [] := rfl
theorem Z3p (refs : List Nat) (a b c : Nat) (l : List Tk) : filtT refs (.nm a b c :: l) = .nm a b c :: filtT refs l := rfl
theorem Z3n (refs : List Nat) (r o : Nat) (l : List Tk) : filtT refs (.cell r o :: l) = if r ∈ refs then filtT refs l else .cell r o :: filtT refs l := rfl
theorem Z3q : ∀ l : List Tk, filtT [] l = l
  | [] => rfl
  | .nm a b c :: l => by simp [filtT, Z3q l]
  | .cell r o :: l => by simp [filtT, Z3q l]
theorem Z1z (i : Nat) : Region.binds .any ⟨i, .data⟩ = true := rfl
theorem Z1y (i : Nat) : Region.binds .any ⟨i, .chain⟩ = true := rfl
theorem Z20 (i : Nat) : Region.binds .any ⟨i, .guard⟩ = true := rfl
theorem Z21 (i : Nat) : Region.binds .any ⟨i, .phase⟩ = true := rfl
theorem Z6b (x : X) : oneX [x] = x := rfl
theorem Z6a : oneX [] = .tup [] := rfl
theorem Z6c (x y : X) (r : List X) : oneX (x :: y :: r) = .tup (x :: y :: r) := rfl
theorem Z3j (xs : List X) (i : Nat) : extractX i (.tup xs) = outO (xs[i]?) := rfl
theorem Z3d (P : Program) (f m : Nat) (an : An) (s : S) : endQ P f m an .normal s ↔ ((resXs (TT.of P) s (resVars P f)).bind fun rs => leave m false rs s.objs) = some an := Iff.rfl
theorem Z3f (P : Program) (f m : Nat) (an : An) (s : S) : endQ P f m an .ret s ↔ ((resXs (TT.of P) s (resVars P f)).bind fun rs => leave m false rs s.objs) = some an := Iff.rfl
theorem Z3e (P : Program) (f m : Nat) (an : An) (x : X) (s : S) : endQ P f m an (.pan x) s ↔ leave m true [x] s.objs = some an := Iff.rfl
theorem Z5t (p : Prop) [Decidable p] : ((!decide p) = true) = ¬ p := by simp

theorem wrap64_ok (n : Int) (h1 : -9223372036854775808 ≤ n) (h2 : n ≤ 9223372036854775807) : IntKind.i64.wrap n = n := IntWalk.i64_in n ⟨h1, h2⟩
def loadV (T : TT) (t off : Nat) : Option Ob → Option X
  | some (.var _ xs) => pieceX T t (xs.drop off)
  | _ => none
theorem Z4l (T : TT) (objs : List Ob) (t r off : Nat) : loadX T objs t (.ptr r off) = outO (loadV T t off (objs[r]?)) := by
  simp only [loadX, loadV]
  cases objs[r]? with
  | none => rfl
  | some ob => cases ob <;> rfl
theorem Z4k (T : TT) (t off ty : Nat) (xs : List X) : loadV T t off (some (.var ty xs)) = pieceX T t (xs.drop off) := rfl
theorem Z6j (x : X) : outO (some x) = out x := rfl
theorem Z4m (T : TT) (objs : List Ob) (t : Nat) (cs : List C) : loadX T objs t (.of (.ref cs)) = outO ((pieceC T t cs).map .of) := rfl

theorem Z39 (t : Tk) (c : C) : (X.of c).drop t = .of c := rfl
theorem Z38 (t : Tk) : X.nil.drop t = .nil := rfl
theorem Z3b (t : Tk) (r o : Nat) : (X.ptr r o).drop t = .ptr r o := rfl
theorem Z37 (t : Tk) (r : Nat) : (X.mp r).drop t = .mp r := rfl
theorem Z3a (t t' : Tk) (e z : Nat) (cs : List C) (n : Nat) : (X.own t' e z cs n).drop t = if t' = t then .of (.sl cs n) else .own t' e z cs n := rfl
theorem Z35 (t : Tk) (xs : List X) : (X.agg xs).drop t = .agg (xs.map (X.drop t)) := by simp [X.drop, drops_eq]
theorem Z3c (t : Tk) (xs : List X) : (X.tup xs).drop t = .tup (xs.map (X.drop t)) := by simp [X.drop, drops_eq]
theorem Z36 (t : Tk) (f : Nat) (xs : List X) : (X.clo f xs).drop t = .clo f (xs.map (X.drop t)) := by simp [X.drop, drops_eq]
theorem Z34 (t : Tk) (ty : Nat) (xs : List X) : (Ob.var ty xs).drop t = .var ty (xs.map (X.drop t)) := by simp [Ob.drop, drops_eq]
theorem Z33 (t : Tk) (es : List (Value × C)) : (Ob.map es).drop t = .map es := rfl
/-- An old right. -/
def Old (clk : Nat) (t : Tk) : Prop := t.older clk fun _ => False
theorem Z68 (clk c ix i : Nat) : Old clk (.nm c ix i) ↔ c < clk := by simp [Old, Tk.older]
theorem Z69 {clk : Nat} {t : Tk} (h : Old clk t) (af : List Edge) : okTk clk af (some t) = true := by
  cases t with
  | nm c ix i => rw [Z68] at h; simp [okTk, h]
  | cell r o => rfl
theorem Z7r (clk ix i : Nat) (af : List Edge) : okTk clk af (some (.nm clk ix i)) = af.any fun e => Region.binds .any e && e.on == ix := by simp [okTk]
theorem old_new {clk c : Nat} {t : Tk} (h : Old clk t) (hc : clk ≤ c) (ix i : Nat) : (Tk.nm c ix i = t) = False := by
  simp only [eq_iff_iff, iff_false]
  rintro rfl
  rw [Z68] at h
  omega
theorem old_add {clk : Nat} {t : Tk} (h : Old clk t) (n : Nat) : Old (clk + n) t := by
  cases t with
  | nm c ix i => rw [Z68] at h ⊢; omega
  | cell r o => trivial
theorem Z2s (s : S) (n : Nat) : s.clk + n + 1 = s.clk + (n + 1) := rfl
theorem Z4n (n k : Nat) : n < n + (k + 1) := by omega
theorem Z6n (f : Operand → X) : partsX f [] = some [] := rfl
def consP (i : Nat) (l : Option (List X)) (q : Option (List (Nat × List X))) : Option (List (Nat × List X)) := match l, q with
  | some l, some q => some ((i, l) :: q)
  | _, _ => none
theorem Z6m (f : Operand → X) (i : Nat) (x : Operand) (r : List (Nat × Operand)) : partsX f ((i, x) :: r) = consP i (cellsX (f x)) (partsX f r) := by
  simp only [partsX, consP]
  cases cellsX (f x) <;> cases partsX f r <;> rfl
theorem Z2w (i : Nat) (l : List X) (q : List (Nat × List X)) : consP i (some l) (some q) = some ((i, l) :: q) := rfl
/-- A slice of one cell. -/
theorem bs_1 {T : TT} {t e : Nat} {d : TD} (h : elemOf T t = some (e, d)) (hz : d.size = 1) (hl : d.zero.length = 1) (tk : Tk) (x : X) : buildSliceX tk 1 (elemOf T t) (some [(0, [x])]) = outO (x.rd.map fun c => .own tk e 1 [c] 1) := by
  have h0 : zeroX d = [ofVal (d.zero.headD (.bool false))] := by
    unfold zeroX
    match hd : d.zero, hl with
    | [v], _ => rfl
  simp only [buildSliceX, h, hz, hl, h0, fillX, Nat.mul_one, Nat.zero_mul, Nat.zero_add, List.replicate_one, List.flatten_singleton, List.length_singleton]
  simp only [show (1 : Nat) ≤ 16777216 by omega, show (0 : Nat) < 1 by omega, and_self, if_true, Nat.le_refl, List.take_zero, List.nil_append, List.drop_one, List.tail_cons, List.append_nil, fillX, X.rds]
  cases x.rd <;> rfl

/-- append. -/
theorem ap_nil {T : TT} {t e : Nat} {d : TD} (h : elemOf T t = some (e, d)) (hz : 0 < d.size) (hb : d.bytes ≤ 32768) (tk : Tk) (y : X) (cs : List C) (m : Nat) (hy : asSl y = some (cs, m)) (hc : cs.length = m * d.size) (hm : m ≤ LIM) :
    appendX T tk t t .nil y = out (.own tk e d.size cs m) := by
  simp only [appendX, appSrc, h, hy, if_true, hc, hz, and_self, hm, hb, out]
theorem ap_own {T : TT} {t e : Nat} {d : TD} (h : elemOf T t = some (e, d)) (hz : 0 < d.size) (hb : d.bytes ≤ 32768) (tk tk' : Tk) (cs0 : List C) (n : Nat) (y : X) (cs : List C) (m : Nat) (hy : asSl y = some (cs, m)) (hc : cs.length = m * d.size) (hm : n + m ≤ LIM) :
    appendX T tk t t (.own tk' e d.size cs0 n) y = some (.own tk e d.size (cs0 ++ cs) (n + m), some tk') := by
  simp only [appendX, appSrc, h, hy, if_true, hc, hz, and_self, hm, hb]

theorem Z17 {α : Type} {A : List α} {n : Nat} (h : A.length = n) (x : α) : (A ++ [x])[n]? = some x := by subst h; simp
theorem Z18 {α : Type} {A : List α} {n : Nat} (h : A.length = n) (x y : α) : (A ++ [x]).set n y = A ++ [y] := by subst h; simp
theorem Z4o (f : Ob → Ob) (J : List Ob) (x : Ob) : List.map f (J ++ [x]) = List.map f J ++ [f x] := by simp
theorem Z2m (v : Value) : cellsX (.of (.lit v)) = some [.of (.lit v)] := rfl
theorem Z2r (cs : List C) (n : Nat) : cellsX (.of (.sl cs n)) = some [.of (.sl cs n)] := rfl
theorem Z2k (f : Nat) (cs : List C) : cellsX (.of (.fn f cs)) = some [.of (.fn f cs)] := rfl
theorem Z2l (t : Nat) (c : C) : cellsX (.of (.ifc t c)) = some [.of (.ifc t c)] := rfl
theorem Z2o : cellsX .nil = some [.nil] := rfl
theorem Z2p (t : Tk) (e z : Nat) (cs : List C) (n : Nat) : cellsX (.own t e z cs n) = some [.own t e z cs n] := rfl
theorem Z2q (r o : Nat) : cellsX (.ptr r o) = some [.ptr r o] := rfl
theorem Z2n (r : Nat) : cellsX (.mp r) = some [.mp r] := rfl
theorem Z2j (f : Nat) (xs : List X) : cellsX (.clo f xs) = some [.clo f xs] := rfl
theorem Z2h (xs : List X) : cellsX (.agg xs) = some xs := rfl
theorem Z2i (cs : List C) : cellsX (.of (.agg cs)) = some (cs.map .of) := rfl
def fillP (place : Nat → Option (Nat × Nat)) (cells xs : List X) (r : List (Nat × List X)) : Option (Nat × Nat) → Option (List X)
  | some (off, size) => if xs.length = size ∧ off + size ≤ cells.length then fillX place (cells.take off ++ xs ++ cells.drop (off + size)) r else none
  | none => none
theorem Z3m (place : Nat → Option (Nat × Nat)) (cells : List X) : fillX place cells [] = some cells := rfl
theorem Z3l (place : Nat → Option (Nat × Nat)) (cells xs : List X) (i : Nat) (r : List (Nat × List X)) : fillX place cells ((i, xs) :: r) = fillP place cells xs r (place i) := by
  simp only [fillX, fillP]
  cases place i <;> rfl
theorem Z3k (place : Nat → Option (Nat × Nat)) (cells xs : List X) (r : List (Nat × List X)) (off size : Nat) (h : xs.length = size ∧ off + size ≤ cells.length) : fillP place cells xs r (some (off, size)) = fillX place (cells.take off ++ xs ++ cells.drop (off + size)) r := if_pos h
end Go.Pe
namespace Go.Pe
set_option linter.defProp false in
def zD := And.intro (And.intro (And.intro (And.intro (And.intro (And.intro @Zz @Zt) (And.intro @Zu (And.intro @Zy @Z10))) (And.intro (And.intro @Zv (And.intro @Zw @Zx)) (And.intro @Z12 (And.intro @Z11 @Z13)))) (And.intro (And.intro (And.intro @Z14 @Zm) (And.intro @Z2 (And.intro @Zp @Z3))) (And.intro (And.intro @Zs (And.intro @Zg @Zc)) (And.intro @Zb (And.intro @Ze @Zd))))) (And.intro (And.intro (And.intro (And.intro @Zq @Z9) (And.intro @Za (And.intro @Zn @Zi))) (And.intro (And.intro @Z5 (And.intro @Z6 @Zf)) (And.intro @Z1 (And.intro @Zl @Z7)))) (And.intro (And.intro (And.intro @Z8 @Z0) (And.intro @Z4 (And.intro @Zr @Zh))) (And.intro (And.intro @Zk (And.intro @Zj @Zo)) (And.intro @Z6w (And.intro @Z6y @Z6v)))))) (And.intro (And.intro (And.intro (And.intro (And.intro @Z6x @Z8u) (And.intro @Z8v (And.intro @Z8t @Z31))) (And.intro (And.intro @Z32 (And.intro @Z30 @Z1i)) (And.intro @Z1j (And.intro @Z1h @Z9p)))) (And.intro (And.intro (And.intro @Z9q @Z9o) (And.intro @Z8n (And.intro @Z8o @Z8m))) (And.intro (And.intro @Z3i (And.intro @Z3g @Z3h)) (And.intro @Z42 (And.intro @Z43 @Z41))))) (And.intro (And.intro (And.intro (And.intro @Z8q @Z8p) (And.intro @Z8s (And.intro @Z8r @Z23))) (And.intro (And.intro @Z22 (And.intro @Z25 @Z24)) (And.intro @Z7g (And.intro @Z7h @Z5j)))) (And.intro (And.intro (And.intro @Z5k (And.intro @Z3s @Z3t)) (And.intro @Z70 (And.intro @Z6z @Z1f))) (And.intro (And.intro @Z1g (And.intro @Z7k @Z7i)) (And.intro @Z3d (And.intro @Z3f @Z3e))))))
set_option linter.defProp false in
def zU := And.intro (And.intro (And.intro (And.intro (And.intro (And.intro (And.intro (And.intro @Z2m @Z2r) (And.intro @Z2k @Z2l)) (And.intro (And.intro @Z2o @Z2p) (And.intro @Z2q @Z2n))) (And.intro (And.intro (And.intro @Z2j @Z2h) (And.intro @Z2i @Z3m)) (And.intro (And.intro @Z3l @Z3k) (And.intro @Z4o @Z17)))) (And.intro (And.intro (And.intro (And.intro @Z18 @Z39) (And.intro @Z38 @Z3b)) (And.intro (And.intro @Z37 @Z3a) (And.intro @Z35 @Z3c))) (And.intro (And.intro (And.intro @Z36 @Z34) (And.intro @Z33 @Z2s)) (And.intro (And.intro @Z4n @Z68) (And.intro @Z69 @Z7r))))) (And.intro (And.intro (And.intro (And.intro (And.intro @Z6n @Z6m) (And.intro @Z2w @Z7x)) (And.intro (And.intro @Z4q @Z7y) (And.intro @Z7z @Z8i))) (And.intro (And.intro (And.intro @Z84 @Z5a) (And.intro @Z4v @Z4w)) (And.intro (And.intro @Z8e @Z56) (And.intro @Z80 @Z4r)))) (And.intro (And.intro (And.intro (And.intro @Z8g @Z58) (And.intro @Z81 @Z4s)) (And.intro (And.intro @Z8j @Z5b) (And.intro @Z8b @Z53))) (And.intro (And.intro (And.intro @Z88 @Z50) (And.intro @Z87 @Z4z)) (And.intro (And.intro @Z8a @Z52) (And.intro @Z89 (And.intro @Z51 @Z8h))))))) (And.intro (And.intro (And.intro (And.intro (And.intro (And.intro @Z59 @Z82) (And.intro @Z4t @Z83)) (And.intro (And.intro @Z4u @Z86) (And.intro @Z4y @Z8f))) (And.intro (And.intro (And.intro @Z57 @Z85) (And.intro @Z4x @Z8c)) (And.intro (And.intro @Z54 @Z8d) (And.intro @Z55 @Z6k)))) (And.intro (And.intro (And.intro (And.intro @Z4g @Z1e) (And.intro @Z63 @Z62)) (And.intro (And.intro @Z67 @Z65) (And.intro @Z66 @Z64))) (And.intro (And.intro (And.intro @Z3y @Z40) (And.intro @Z3z @Z2t)) (And.intro (And.intro @Z3w @Z3r) (And.intro @Z3u @Z3v))))) (And.intro (And.intro (And.intro (And.intro (And.intro @Z6g @Z6h) (And.intro @Z6f @Z6e)) (And.intro (And.intro @Z6i @Z1r) (And.intro @Z1q @Z1p))) (And.intro (And.intro (And.intro @Z1o @Z1n) (And.intro @Z1t @Z1k)) (And.intro (And.intro @Z1x @Z1s) (And.intro @Z1v @Z1w)))) (And.intro (And.intro (And.intro (And.intro @Z1l @Z1m) (And.intro @Z9n @Z9m)) (And.intro (And.intro @Z4h @Z4i) (And.intro @Z4p @Z4j))) (And.intro (And.intro (And.intro @Z6q @Z4f) (And.intro @Z4e @Z4d)) (And.intro (And.intro @Z4c @Z1a) (And.intro @Z1b (And.intro @Z19 @Z72)))))))) (And.intro (And.intro (And.intro (And.intro (And.intro (And.intro (And.intro @Z73 @Z71) (And.intro @Z2u @Z26)) (And.intro (And.intro @Z27 @Z29) (And.intro @Z28 @Z6s))) (And.intro (And.intro (And.intro @Z6r @Z5w) (And.intro @Z5x @Z9g)) (And.intro (And.intro @Z9f @Z9c) (And.intro @Z9j @Z9d)))) (And.intro (And.intro (And.intro (And.intro @Z9i @Z9e) (And.intro @Z9h @Z9l)) (And.intro (And.intro @Z9k @Z61) (And.intro @Z60 @Z9b))) (And.intro (And.intro (And.intro @Z98 @Z9a) (And.intro @Z99 @Z5i)) (And.intro (And.intro @Z5h @Z5g) (And.intro @Z6u @Z6t))))) (And.intro (And.intro (And.intro (And.intro (And.intro @Z7n @Z7q) (And.intro @Z7o @Z7p)) (And.intro (And.intro @Z44 @Z45) (And.intro @Z7w @Z7u))) (And.intro (And.intro (And.intro @Z7v @Z7m) (And.intro @Z7l @Z2z)) (And.intro (And.intro @Z2y @Z6p) (And.intro @Z6o @Z2v)))) (And.intro (And.intro (And.intro (And.intro @Z7t @Z7s) (And.intro @Z75 @Z74)) (And.intro (And.intro @Z7c @Z7b) (And.intro @Z7d @Z7e))) (And.intro (And.intro (And.intro @Z7a @Z79) (And.intro @Z78 @Z7f)) (And.intro (And.intro @Z77 @Z76) (And.intro @Z5z (And.intro @Z5y @Z94))))))) (And.intro (And.intro (And.intro (And.intro (And.intro (And.intro @Z93 @Z95) (And.intro @Z96 @Z92)) (And.intro (And.intro @Z91 @Z90) (And.intro @Z97 @Z8z))) (And.intro (And.intro (And.intro @Z8y @Z8w) (And.intro @Z8x @Z5v)) (And.intro (And.intro @Z5u @Z6d) (And.intro @Z15 @Z5p)))) (And.intro (And.intro (And.intro (And.intro @Z5q @Z5o) (And.intro @Z5s @Z5n)) (And.intro (And.intro @Z5m @Z5l) (And.intro @Z5r @Z16))) (And.intro (And.intro (And.intro @Z8k @Z8l) (And.intro @Z47 @Z46)) (And.intro (And.intro @Z5f @Z5e) (And.intro @Z5c (And.intro @Z5d @Z1d)))))) (And.intro (And.intro (And.intro (And.intro (And.intro @Z1c @Z2d) (And.intro @Z2f @Z2e)) (And.intro (And.intro @Z2c @Z2g) (And.intro @Z2b @Z2a))) (And.intro (And.intro (And.intro @Z6l @Z3x) (And.intro @Z7j @Z2x)) (And.intro (And.intro @Z4b @Z48) (And.intro @Z49 @Z4a)))) (And.intro (And.intro (And.intro (And.intro @Z3q @Z3o) (And.intro @Z3p @Z3n)) (And.intro (And.intro @Z1z @Z1y) (And.intro @Z20 @Z21))) (And.intro (And.intro (And.intro @Z6b @Z6a) (And.intro @Z6c @Z3j)) (And.intro (And.intro @Z4m @Z4l) (And.intro @Z4k (And.intro @Z6j @Z5t))))))))
end Go.Pe

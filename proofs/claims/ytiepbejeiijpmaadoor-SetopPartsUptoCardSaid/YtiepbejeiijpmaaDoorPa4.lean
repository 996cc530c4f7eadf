/-
  An abstract machine for Go code over plain data: how a state reads. Conditions: none.
-/
import Derived.Test.YtiepbejeiijpmaaDoorPa3
namespace Go.Pe

def Orc.le (a b : Orc) : Prop := ∀ f xs obs an, a f xs obs = some an → b f xs obs = some an
structure En.le (a b : En) : Prop where
  orc : Orc.le a.orc b.orc
  obj : a.obj = b.obj
  tk : a.tk = b.tk

theorem callX_mono {P : Program} {E E' : En} (h : En.le E E') {clk ix f : Nat} {cs : List C} {y : X × Option Tk} (hv : callX P E clk ix f cs = some y) : callX P E' clk ix f cs = some y := by
  unfold callX at *
  rw [← h.obj]
  split at hv
  · rename_i hc
    rw [if_pos hc]
    split at hv
    · rename_i rs hr
      rw [h.orc _ _ _ _ hr]
      exact hv
    · cases hv
  · cases hv

theorem val_mono {P : Program} {T : TT} {E E' : En} (h : En.le E E') {s : S} {ix : Nat} {o : Oper} {y : X × Option Tk} (hv : val P T E s ix o = some y) : val P T E' s ix o = some y := by
  unfold val at *
  split at hv <;> (try exact hv)
  unfold valCall at *
  split at hv
  · exact hv
  · exact hv
  · split at hv
    · exact callX_mono h hv
    · cases hv
  · cases hv

theorem stepV_mono {P : Program} {T : TT} {E E' : En} (h : En.le E E') {s : S} {ix : Nat} {o : Oper} {y : Option X × S} (hv : stepV P T E s ix o = some y) : stepV P T E' s ix o = some y := by
  unfold stepV at *
  split at hv
  · rename_i x t hx
    rw [val_mono h hx]
    exact hv
  · cases hv

theorem step_mono {P : Program} {T : TT} {E E' : En} (h : En.le E E') {dr : Bool} {s : S} {ix : Nat} {o : Oper} {y : Option X × S} (hv : step P T E dr s ix o = some y) : step P T E' dr s ix o = some y := by
  unfold step at *
  split at hv
  · rename_i hd
    rw [if_pos hd]
    exact stepV_mono h hv
  · rename_i hd
    rw [if_neg hd]
    split at hv
    · exact hv
    · exact hv
    · exact hv
    · exact hv
    · exact hv
    · exact hv
    · exact hv
    · split at hv
      · rename_i g us htg
        rw [← h.obj]
        split at hv
        · rename_i ho
          rw [if_pos ho]
          unfold callS at *
          rw [← h.tk]
          split at hv
          · rename_i hc
            rw [if_pos hc]
            simp only at hv ⊢
            split at hv
            · rename_i obs hobs
              split at hv
              · rename_i an han
                rw [h.orc _ _ _ _ han]
                exact hv
              · cases hv
            · cases hv
          · cases hv
        · rename_i ho
          rw [if_neg ho]
          exact stepV_mono h hv
      · cases hv
    · exact stepV_mono h hv

theorem evOps_mono {P : Program} {T : TT} {E E' : En} (h : En.le E E') {dr : Bool} {ops : Array Oper} {y : Option X × S} : ∀ (l : List Oper) (n : Nat) (s : S), evOps P T E dr ops n l s = some y → evOps P T E' dr ops n l s = some y
  | [], _, _, hv => hv
  | o :: l, n, s, hv => by
    have hst : ∀ z, stepG P T E dr ops s n o = some z → stepG P T E' dr ops s n o = some z := fun z h1 => by
      unfold stepG at *
      split at h1
      · exact step_mono h h1
      · exact h1
      · cases h1
    simp only [evOps] at hv ⊢
    split at hv
    · rename_i s1 h1
      rw [hst _ h1]
      exact evOps_mono h l _ _ hv
    · rename_i x s1 h1
      rw [hst _ h1]
      exact hv
    · cases hv

theorem enOf_mono {P : Program} {T : TT} {pr : Pr} {a b : Code → S → Option (Ex × S)} (h : ∀ c s r, a c s = some r → b c s = some r) : En.le (enOf P T pr a) (enOf P T pr b) where
  obj := rfl
  tk := rfl
  orc := by
    intro f xs obs an hr
    simp only [enOf, orcOf] at *
    split at hr
    · rename_i r' hp; simpa [hp] using hr
    · unfold callOf at *
      split at hr
      · rename_i hc
        rw [if_pos hc]
        split at hr
        · rename_i s1 h1; rw [h _ _ _ h1]; exact hr
        · rename_i s1 h1; rw [h _ _ _ h1]; exact hr
        · rename_i x s1 h1; rw [h _ _ _ h1]; exact hr
        · cases hr
      · cases hr

theorem evC_seqE (P : Program) (T : TT) (pr : Pr) (n : Nat) (a b : Code) (s : S) : evC P T pr (n + 1) (.seq a b) s = match evC P T pr n a s with
    | some (.normal, s') => evC P T pr n b s'
    | r => r := rfl
theorem evC_blockE (P : Program) (T : TT) (pr : Pr) (n i : Nat) (c : Code) (s : S) : evC P T pr (n + 1) (.block i c) s = match evC P T pr n c s with
    | some (.exit j, s') => some (if j = i then .normal else .exit j, s')
    | r => r := rfl
theorem evC_condE (P : Program) (T : TT) (pr : Pr) (n : Nat) (c : Operand) (a b : Code) (s : S) : evC P T pr (n + 1) (.cond c a b) s = match litBool (s.ev c) with
    | some true => evC P T pr n a s
    | some false => evC P T pr n b s
    | none => none := rfl
theorem evC_loopE (P : Program) (T : TT) (pr : Pr) (n : Nat) (c : Code) (s : S) : evC P T pr (n + 1) (.loop c) s = match evC P T pr n c s with
    | some (.normal, s') => evC P T pr n (.loop c) s'
    | r => r := rfl
theorem evC_regionE (P : Program) (T : TT) (pr : Pr) (n id : Nat) (ops : Array Oper) (draw : Bool) (s : S) : evC P T pr (n + 1) (.region id ops draw) s = match evOps P T (enOf P T pr (evC P T pr n)) draw ops 0 ops.toList s with
    | some (none, s') => some (.normal, { s' with clk := s'.clk + 1 })
    | some (some x, s') => some (.pan x, { s' with clk := s'.clk + 1 })
    | none => none := rfl

theorem evC_succ {P : Program} {T : TT} {pr : Pr} : ∀ (n : Nat) (c : Code) (s : S) (r : Ex × S), evC P T pr n c s = some r → evC P T pr (n + 1) c s = some r
  | 0, c, s, r, h => by simp [evC] at h
  | n + 1, c, s, r, h => by
    have ih := evC_succ (P := P) (T := T) (pr := pr) n
    cases c with
    | seq a b =>
      rw [evC_seqE] at h ⊢
      split at h
      · rename_i s1 h1; rw [ih _ _ _ h1]; exact ih _ _ _ h
      · rename_i hne
        cases h2 : evC P T pr n a s with
        | none => rw [h2] at h; cases h
        | some p =>
          obtain ⟨e, s1⟩ := p
          rw [ih _ _ _ h2]
          cases e with
          | normal => exact (hne s1 h2).elim
          | exit i => rw [h2] at h; exact h
          | ret => rw [h2] at h; exact h
          | pan x => rw [h2] at h; exact h
    | block i c =>
      rw [evC_blockE] at h ⊢
      cases h2 : evC P T pr n c s with
      | none => rw [h2] at h; cases h
      | some p => rw [ih _ _ _ h2]; rw [h2] at h; exact h
    | cond c a b =>
      rw [evC_condE] at h ⊢
      split at h
      · exact ih _ _ _ h
      · exact ih _ _ _ h
      · cases h
    | loop c =>
      rw [evC_loopE] at h ⊢
      cases h2 : evC P T pr n c s with
      | none => rw [h2] at h; cases h
      | some p =>
        obtain ⟨e, s1⟩ := p
        rw [ih _ _ _ h2]
        rw [h2] at h
        cases e with
        | normal => exact ih _ _ _ h
        | exit i => exact h
        | ret => exact h
        | pan x => exact h
    | region id ops draw =>
      rw [evC_regionE] at h ⊢
      split at h
      · rename_i s1 h1
        rw [evOps_mono (enOf_mono ih) _ _ _ h1]
        exact h
      · rename_i x s1 h1
        rw [evOps_mono (enOf_mono ih) _ _ _ h1]
        exact h
      · cases h
    | skip => simpa only [evC] using h
    | ret => simpa only [evC] using h
    | exit i => simpa only [evC] using h
    | _ => simp [evC] at h

theorem evC_mono {P : Program} {T : TT} {pr : Pr} {n m : Nat} (h : n ≤ m) {c : Code} {s : S} {r : Ex × S} (hr : evC P T pr n c s = some r) : evC P T pr m c s = some r := by
  induction m with
  | zero => obtain rfl : n = 0 := by omega
            exact hr
  | succ m ih =>
    rcases Nat.lt_or_ge n (m + 1) with g | g
    · exact evC_succ m c s r (ih (by omega))
    · obtain rfl : n = m + 1 := by omega
      exact hr

section
variable (P : Program) (pr : Pr)

def enN (n : Nat) : En := enOf P (TT.of P) pr (evC P (TT.of P) pr n)
theorem enN_mono {n m : Nat} (h : n ≤ m) : En.le (enN P pr n) (enN P pr m) := enOf_mono fun _ _ _ hr => evC_mono h hr

/-- A call of f, given this, is answered so. -/
def Gives (f : Nat) (xs : List X) (obs : List Ob) (an : An) : Prop := ∃ n, (enN P pr n).orc f xs obs = some an
def CallK (f : Nat) (xs : List X) (obs : List Ob) (K : An → Prop) : Prop := ∃ an, Gives P pr f xs obs an ∧ K an
def WC (c : Code) (s : S) (Q : Ex → S → Prop) : Prop := ∃ n e s', evC P (TT.of P) pr n c s = some (e, s') ∧ Q e s'
def WO (dr : Bool) (ops : Array Oper) (k : Nat) (l : List Oper) (s : S) (Q : Option X → S → Prop) : Prop := ∃ n e s', evOps P (TT.of P) (enN P pr n) dr ops k l s = some (e, s') ∧ Q e s'
def SO (dr : Bool) (k : Nat) (o : Oper) (s : S) (Q : Option X → S → Prop) : Prop := ∃ n e s', step P (TT.of P) (enN P pr n) dr s k o = some (e, s') ∧ Q e s'

def thenQ (b : Code) (Q : Ex → S → Prop) : Ex → S → Prop
  | .normal, s => WC P pr b s Q
  | .exit i, s => Q (.exit i) s
  | .ret, s => Q .ret s
  | .pan x, s => Q (.pan x) s
def blockQ (i : Nat) (Q : Ex → S → Prop) : Ex → S → Prop
  | .normal, s => Q .normal s
  | .exit j, s => if j = i then Q .normal s else Q (.exit j) s
  | .ret, s => Q .ret s
  | .pan x, s => Q (.pan x) s
def regQ (Q : Ex → S → Prop) : Option X → S → Prop
  | none, s => Q .normal { s with clk := s.clk + 1 }
  | some x, s => Q (.pan x) { s with clk := s.clk + 1 }
/-- The rest of a region, if all is well. -/
def nextQ (F : S → Prop) (Q : Option X → S → Prop) : Option X → S → Prop
  | none, s => F s
  | some x, s => Q (some x) s
def condQ : Option Bool → Prop → Prop → Prop
  | some b, p, q => if b = true then p else q
  | none, _, _ => False
def guardQ : Option Bool → Prop → Prop → Prop
  | some true, p, _ => p
  | some false, _, q => q
  | none, _, _ => False

variable {P pr}

theorem Gives.unique {f : Nat} {xs : List X} {obs : List Ob} {r r' : An} (h : Gives P pr f xs obs r) (h' : Gives P pr f xs obs r') : r = r' := by
  obtain ⟨n, hn⟩ := h
  obtain ⟨m, hm⟩ := h'
  have h1 := (enN_mono P pr (Nat.le_max_left n m)).orc _ _ _ _ hn
  have h2 := (enN_mono P pr (Nat.le_max_right n m)).orc _ _ _ _ hm
  exact Option.some.inj (h1.symm.trans h2)

theorem Gives.k {f : Nat} {xs : List X} {obs : List Ob} {r : An} (h : Gives P pr f xs obs r) (K : An → Prop) : CallK P pr f xs obs K ↔ K r :=
  ⟨fun ⟨_, h1, h2⟩ => h.unique h1 ▸ h2, fun h2 => ⟨r, h, h2⟩⟩

theorem Zy (s : S) (Q : Ex → S → Prop) : WC P pr .skip s Q ↔ Q .normal s :=
  ⟨fun ⟨n, e, s', h, hq⟩ => by
    cases n with
    | zero => simp [evC] at h
    | succ n => simp only [evC, Option.some.injEq, Prod.mk.injEq] at h; obtain ⟨rfl, rfl⟩ := h; exact hq, fun h => ⟨1, _, _, rfl, h⟩⟩
theorem Zw (s : S) (Q : Ex → S → Prop) : WC P pr .ret s Q ↔ Q .ret s :=
  ⟨fun ⟨n, e, s', h, hq⟩ => by
    cases n with
    | zero => simp [evC] at h
    | succ n => simp only [evC, Option.some.injEq, Prod.mk.injEq] at h; obtain ⟨rfl, rfl⟩ := h; exact hq, fun h => ⟨1, _, _, rfl, h⟩⟩
theorem Zu (i : Nat) (s : S) (Q : Ex → S → Prop) : WC P pr (.exit i) s Q ↔ Q (.exit i) s :=
  ⟨fun ⟨n, e, s', h, hq⟩ => by
    cases n with
    | zero => simp [evC] at h
    | succ n => simp only [evC, Option.some.injEq, Prod.mk.injEq] at h; obtain ⟨rfl, rfl⟩ := h; exact hq, fun h => ⟨1, _, _, rfl, h⟩⟩

theorem Zx (a b : Code) (s : S) (Q : Ex → S → Prop) : WC P pr (.seq a b) s Q ↔ WC P pr a s (thenQ P pr b Q) := by
  constructor
  · rintro ⟨n, e, s', h, hq⟩
    cases n with
    | zero => simp [evC] at h
    | succ n =>
      rw [evC_seqE] at h
      split at h
      · rename_i s1 h1; exact ⟨n, .normal, s1, h1, n, e, s', h, hq⟩
      · rename_i hne
        refine ⟨n, e, s', h, ?_⟩
        cases e with
        | normal => exact (hne s' h).elim
        | exit i => exact hq
        | ret => exact hq
        | pan x => exact hq
  · rintro ⟨n, e, s', h, hq⟩
    cases e with
    | normal =>
      obtain ⟨m, e2, s2, h2, hq2⟩ := hq
      refine ⟨max n m + 1, e2, s2, ?_, hq2⟩
      rw [evC_seqE]
      simp only [evC_mono (Nat.le_max_left n m) h, evC_mono (Nat.le_max_right n m) h2]
    | exit i => exact ⟨n + 1, .exit i, s', by rw [evC_seqE]; simp only [h], hq⟩
    | ret => exact ⟨n + 1, .ret, s', by rw [evC_seqE]; simp only [h], hq⟩
    | pan x => exact ⟨n + 1, .pan x, s', by rw [evC_seqE]; simp only [h], hq⟩

theorem Zs (i : Nat) (c : Code) (s : S) (Q : Ex → S → Prop) : WC P pr (.block i c) s Q ↔ WC P pr c s (blockQ i Q) := by
  constructor
  · rintro ⟨n, e, s', h, hq⟩
    cases n with
    | zero => simp [evC] at h
    | succ n =>
      rw [evC_blockE] at h
      split at h
      · rename_i j s1 h1
        simp only [Option.some.injEq, Prod.mk.injEq] at h
        obtain ⟨rfl, rfl⟩ := h
        refine ⟨n, _, _, h1, ?_⟩
        simp only [blockQ]
        split
        · rename_i e; rw [if_pos e] at hq; exact hq
        · rename_i e; rw [if_neg e] at hq; exact hq
      · rename_i hne
        refine ⟨n, e, s', h, ?_⟩
        cases e with
        | normal => exact hq
        | exit j => exact (hne j s' h).elim
        | ret => exact hq
        | pan x => exact hq
  · rintro ⟨n, e, s', h, hq⟩
    cases e with
    | normal => exact ⟨n + 1, .normal, s', by rw [evC_blockE]; simp only [h], hq⟩
    | exit j =>
      refine ⟨n + 1, if j = i then .normal else .exit j, s', by rw [evC_blockE]; simp only [h], ?_⟩
      simp only [blockQ] at hq
      split
      · rename_i e; rw [if_pos e] at hq; exact hq
      · rename_i e; rw [if_neg e] at hq; exact hq
    | ret => exact ⟨n + 1, .ret, s', by rw [evC_blockE]; simp only [h], hq⟩
    | pan x => exact ⟨n + 1, .pan x, s', by rw [evC_blockE]; simp only [h], hq⟩

theorem Zt (c : Operand) (a b : Code) (s : S) (Q : Ex → S → Prop) : WC P pr (.cond c a b) s Q ↔ condQ (litBool (s.ev c)) (WC P pr a s Q) (WC P pr b s Q) := by
  constructor
  · rintro ⟨n, e, s', h, hq⟩
    cases n with
    | zero => simp [evC] at h
    | succ n =>
      rw [evC_condE] at h
      split at h
      · rename_i hc; rw [hc]; exact ⟨n, e, s', h, hq⟩
      · rename_i hc; rw [hc]; exact ⟨n, e, s', h, hq⟩
      · cases h
  · intro h
    cases hc : litBool (s.ev c) with
    | none => rw [hc] at h; exact h.elim
    | some t =>
      rw [hc] at h
      cases t with
      | true => obtain ⟨n, e, s', h, hq⟩ := h; exact ⟨n + 1, e, s', by rw [evC_condE]; simp only [hc, h], hq⟩
      | false => obtain ⟨n, e, s', h, hq⟩ := h; exact ⟨n + 1, e, s', by rw [evC_condE]; simp only [hc, h], hq⟩

theorem WC_region (id : Nat) (ops : Array Oper) (draw : Bool) (s : S) (Q : Ex → S → Prop) : WC P pr (.region id ops draw) s Q ↔ WO P pr draw ops 0 ops.toList s (regQ Q) := by
  constructor
  · rintro ⟨n, e, s', h, hq⟩
    cases n with
    | zero => simp [evC] at h
    | succ n =>
      rw [evC_regionE] at h
      split at h
      · rename_i s1 h1
        simp only [Option.some.injEq, Prod.mk.injEq] at h
        obtain ⟨rfl, rfl⟩ := h
        exact ⟨n, none, s1, h1, hq⟩
      · rename_i x s1 h1
        simp only [Option.some.injEq, Prod.mk.injEq] at h
        obtain ⟨rfl, rfl⟩ := h
        exact ⟨n, some x, s1, h1, hq⟩
      · cases h
  · rintro ⟨n, e, s1, h1, hq⟩
    cases e with
    | none =>
      refine ⟨n + 1, .normal, _, ?_, hq⟩
      unfold enN at h1
      rw [evC_regionE]
      simp only [h1]
    | some x =>
      refine ⟨n + 1, .pan x, _, ?_, hq⟩
      unfold enN at h1
      rw [evC_regionE]
      simp only [h1]

/-- A loop, one round at a time. -/
theorem WC_loop (c : Code) (s : S) (Q : Ex → S → Prop) : WC P pr (.loop c) s Q ↔ WC P pr c s (thenQ P pr (.loop c) Q) := by
  constructor
  · rintro ⟨n, e, s', h, hq⟩
    cases n with
    | zero => simp [evC] at h
    | succ n =>
      rw [evC_loopE] at h
      split at h
      · rename_i s1 h1; exact ⟨n, .normal, s1, h1, n, e, s', h, hq⟩
      · rename_i hne
        refine ⟨n, e, s', h, ?_⟩
        cases e with
        | normal => exact (hne s' h).elim
        | exit i => exact hq
        | ret => exact hq
        | pan x => exact hq
  · rintro ⟨n, e, s', h, hq⟩
    cases e with
    | normal =>
      obtain ⟨m, e2, s2, h2, hq2⟩ := hq
      refine ⟨max n m + 1, e2, s2, ?_, hq2⟩
      rw [evC_loopE]
      simp only [evC_mono (Nat.le_max_left n m) h, evC_mono (Nat.le_max_right n m) h2]
    | exit i => exact ⟨n + 1, .exit i, s', by rw [evC_loopE]; simp only [h], hq⟩
    | ret => exact ⟨n + 1, .ret, s', by rw [evC_loopE]; simp only [h], hq⟩
    | pan x => exact ⟨n + 1, .pan x, s', by rw [evC_loopE]; simp only [h], hq⟩

/-- A loop, by an invariant: I m: m rounds are left at the most. -/
theorem WC_inv (c : Code) (Q : Ex → S → Prop) (I : Nat → S → Prop) (h : ∀ m s, I m s → WC P pr c s (fun e s' => match e with
    | .normal => ∃ m', m' < m ∧ I m' s'
    | .exit i => Q (.exit i) s'
    | .ret => Q .ret s'
    | .pan x => Q (.pan x) s')) : ∀ (m : Nat) (s : S), I m s → WC P pr (.loop c) s Q := by
  intro m
  induction m using Nat.strongRecOn with
  | _ m ih =>
    intro s hs
    rw [WC_loop]
    obtain ⟨n, e, s', h1, hq⟩ := h m s hs
    refine ⟨n, e, s', h1, ?_⟩
    cases e with
    | normal => obtain ⟨m', hm, hI⟩ := hq; exact ih m' hm s' hI
    | exit i => exact hq
    | ret => exact hq
    | pan x => exact hq

theorem WC.mono {c : Code} {s : S} {Q Q' : Ex → S → Prop} (h : WC P pr c s Q) (hq : ∀ e s, Q e s → Q' e s) : WC P pr c s Q' :=
  let ⟨n, e, s', h1, h2⟩ := h; ⟨n, e, s', h1, hq _ _ h2⟩

theorem Z10 (dr : Bool) (ops : Array Oper) (k : Nat) (s : S) (Q : Option X → S → Prop) : WO P pr dr ops k [] s Q ↔ Q none s :=
  ⟨fun ⟨n, e, s', h, hq⟩ => by simp only [evOps, Option.some.injEq, Prod.mk.injEq] at h; obtain ⟨rfl, rfl⟩ := h; exact hq, fun h => ⟨0, none, s, rfl, h⟩⟩

theorem Zz (dr : Bool) (ops : Array Oper) (k : Nat) (o : Oper) (l : List Oper) (s : S) (Q : Option X → S → Prop) :
    WO P pr dr ops k (o :: l) s Q ↔ guardQ (guardOk ops s o) (SO P pr dr k o s (nextQ (fun s' => WO P pr dr ops (k + 1) l s' Q) Q)) (WO P pr dr ops (k + 1) l (s.put o.dst (.of .undef)) Q) := by
  constructor
  · rintro ⟨n, e, s', h, hq⟩
    simp only [evOps] at h
    cases hg : guardOk ops s o with
    | none => simp [stepG, hg] at h
    | some b =>
      cases b with
      | false =>
        simp only [stepG, hg] at h
        exact ⟨n, e, s', h, hq⟩
      | true =>
        simp only [stepG, hg] at h
        split at h
        · rename_i s1 h1; exact ⟨n, none, s1, h1, n, e, s', h, hq⟩
        · rename_i x s1 h1
          simp only [Option.some.injEq, Prod.mk.injEq] at h
          obtain ⟨rfl, rfl⟩ := h
          exact ⟨n, some x, s1, h1, hq⟩
        · cases h
  · intro h
    cases hg : guardOk ops s o with
    | none => rw [hg] at h; exact h.elim
    | some b =>
      rw [hg] at h
      cases b with
      | true =>
        obtain ⟨n, e1, s1, h1, h⟩ := h
        cases e1 with
        | none =>
          obtain ⟨m, e, s', h2, hq⟩ := h
          refine ⟨max n m, e, s', ?_, hq⟩
          simp only [evOps, stepG, hg, step_mono (enN_mono P pr (Nat.le_max_left n m)) h1]
          exact evOps_mono (enN_mono P pr (Nat.le_max_right n m)) _ _ _ h2
        | some x => exact ⟨n, some x, s1, by simp only [evOps, stepG, hg, h1], h⟩
      | false =>
        obtain ⟨n, e, s', h2, hq⟩ := h
        exact ⟨n, e, s', by simp only [evOps, stepG, hg]; exact h2, hq⟩

def optQ (Q : S → Prop) : Option S → Prop
  | some s => Q s
  | none => False
/-- What is done with an operation's answer. -/
def outK (s : S) (d : Option Nat) (af : Array Edge) (K : S → Prop) : Out → Prop
  | none => False
  | some (x, none) => K (s.put d x)
  | some (x, some t) => okTk s.clk af.toList (some t) = true ∧ K ((s.drop (some t)).put d x)

theorem SO_val {dr : Bool} {k : Nat} {o : Oper} {s : S} {Q : Option X → S → Prop} (v : Out) (hst : ∀ E, step P (TT.of P) E dr s k o = stepV P (TT.of P) E s k o) (h : ∀ n, val P (TT.of P) (enN P pr n) s k o = v) : SO P pr dr k o s Q ↔ outK s o.dst o.after (Q none) v := by
  constructor
  · rintro ⟨n, e, s', h1, hq⟩
    rw [hst, stepV, h n] at h1
    split at h1
    · rename_i x t
      split at h1
      · rename_i hok
        simp only [Option.some.injEq, Prod.mk.injEq] at h1
        obtain ⟨rfl, rfl⟩ := h1
        cases t with
        | none => exact hq
        | some t => exact ⟨hok, hq⟩
      · cases h1
    · cases h1
  · intro hv
    match v, h, hv with
    | some (x, none), h, hv => exact ⟨0, none, _, by rw [hst, stepV, h 0]; simp only [okTk, if_true]; rfl, hv⟩
    | some (x, some t), h, hv => exact ⟨0, none, _, by rw [hst, stepV, h 0]; simp only [hv.1, if_true], hv.2⟩

section
variable (dr : Bool) (k : Nat) (d : Option Nat) (ty : Nat) (po : String) (af : Array Edge) (g : Option (Nat × Bool)) (s : S) (Q : Option X → S → Prop)

theorem Zl (x : Operand) : SO P pr dr k ⟨d, .move x, ty, po, af, g⟩ s Q ↔ Q none (s.put d (s.ev x)) := SO_val (out (s.ev x)) (fun _ => by cases dr <;> rfl) fun _ => rfl
theorem Z2 (x : Operand) : SO P pr dr k ⟨d, .assign x, ty, po, af, g⟩ s Q ↔ Q none (s.put d (s.ev x)) := SO_val (out (s.ev x)) (fun _ => by cases dr <;> rfl) fun _ => rfl

def pickO (s : S) (a b : Operand) : Option Bool → Out
  | some b' => out (if b' then s.ev a else s.ev b)
  | none => none
theorem Zo (c a b : Operand) : SO P pr dr k ⟨d, .pick c a b, ty, po, af, g⟩ s Q ↔ outK s d af (Q none) (pickO s a b (litBool (s.ev c))) :=
  SO_val _ (fun _ => by cases dr <;> rfl) fun _ => by simp only [val, pickO]; cases litBool (s.ev c) <;> rfl

theorem Z3 (op : BinOp) (t : Nat) (x y : Operand) (yt : Nat) : SO P pr dr k ⟨d, .binOp op t x y yt, ty, po, af, g⟩ s Q ↔ outK s d af (Q none) (binX P (TT.of P) t ((TT.of P t).map (·.und)) op (s.ev x) (s.ev y)) :=
  SO_val _ (fun _ => by cases dr <;> rfl) fun _ => rfl
def unX (op : UnOp) : X → Out
  | .of (.lit a) => outO ((unLit op a).map fun v => .of (.lit v))
  | _ => none
theorem Zr (op : UnOp) (t : Nat) (x : Operand) : SO P pr dr k ⟨d, .unOp op t x, ty, po, af, g⟩ s Q ↔ outK s d af (Q none) (unX op (s.ev x)) := SO_val _ (fun _ => by cases dr <;> rfl) fun _ => rfl
theorem Zg (t : Nat) (a : Operand) : SO P pr dr k ⟨d, .load t a, ty, po, af, g⟩ s Q ↔ outK s d af (Q none) (loadX (TT.of P) s.objs t (s.ev a)) := SO_val _ (fun _ => by cases dr <;> rfl) fun _ => rfl
theorem Zc (t : Nat) (x : Operand) (f : Nat) : SO P pr dr k ⟨d, .fieldAddr t x f, ty, po, af, g⟩ s Q ↔ outK s d af (Q none) (fieldAddrX (TT.of P) t f (s.ev x)) := SO_val _ (fun _ => by cases dr <;> rfl) fun _ => rfl
theorem Zb (t : Nat) (x : Operand) (f : Nat) : SO P pr dr k ⟨d, .field t x f, ty, po, af, g⟩ s Q ↔ outK s d af (Q none) (fieldX (TT.of P) t f (s.ev x)) := SO_val _ (fun _ => by cases dr <;> rfl) fun _ => rfl
theorem Ze (t : Nat) (x i : Operand) : SO P pr dr k ⟨d, .indexAddr t x i, ty, po, af, g⟩ s Q ↔ outK s d af (Q none) (indexAddrX (TT.of P) t (s.ev x) (s.ev i)) := SO_val _ (fun _ => by cases dr <;> rfl) fun _ => rfl
theorem Zd (t : Nat) (x i : Operand) : SO P pr dr k ⟨d, .index t x i, ty, po, af, g⟩ s Q ↔ outK s d af (Q none) (indexX (TT.of P) t (s.ev x) (s.ev i)) := SO_val _ (fun _ => by cases dr <;> rfl) fun _ => rfl
theorem Zp (t : Nat) (x : Operand) (lo hi : Option Operand) : SO P pr dr k ⟨d, .slice t x lo hi none, ty, po, af, g⟩ s Q ↔ outK s d af (Q none) (sliceX (TT.of P) t (s.ev x) (lo.map s.ev) (hi.map s.ev)) := SO_val _ (fun _ => by cases dr <;> rfl) fun _ => rfl
theorem Z9 (a b : Nat) (x : Operand) : SO P pr dr k ⟨d, .convert a b x, ty, po, af, g⟩ s Q ↔ outK s d af (Q none) (convertX (TT.of P) a b (s.ev x)) := SO_val _ (fun _ => by cases dr <;> rfl) fun _ => rfl

def extractX (i : Nat) : X → Out
  | .tup xs => outO (xs[i]?)
  | .of (.tup cs) => outO ((cs[i]?).map .of)
  | _ => none
theorem Za (x : Operand) (i : Nat) : SO P pr dr k ⟨d, .extract x i, ty, po, af, g⟩ s Q ↔ outK s d af (Q none) (extractX i (s.ev x)) := SO_val _ (fun _ => by cases dr <;> rfl) fun _ => rfl
def nilX : X → Out
  | .ptr r off => out (.ptr r off)
  | .of (.ref cs) => out (.of (.ref cs))
  | _ => none
theorem Zm (x : Operand) : SO P pr dr k ⟨d, .nilCheck x, ty, po, af, g⟩ s Q ↔ outK s d af (Q none) (nilX (s.ev x)) := SO_val _ (fun _ => by cases dr <;> rfl) fun _ => rfl
def fnX (f : Nat) : Option (List C) → Out
  | some cs => out (.of (.fn f cs))
  | none => none
theorem Zi (f : Nat) (caps : Array Operand) : SO P pr dr k ⟨d, .makeFunc (.func f) #[] caps, ty, po, af, g⟩ s Q ↔ outK s d af (Q none) (fnX f (rdAll s.ev caps.toList)) := SO_val _ (fun _ => by cases dr <;> rfl) fun _ => rfl

def buildX (P : Program) (t : Nat) : Option TD → Option (List (Nat × List X)) → Out
  | some d, some qs => match d.und with
    | .struct _ => outO ((fillX (fun i => d.fields[i]?) (zeroX d) qs).map .agg)
    | .array _ e => match TT.of P e with
      | some de => outO ((fillX (fun i => some (i * de.size, de.size)) (zeroX d) qs).map .agg)
      | none => none
    | _ => none
  | _, _ => none
theorem Z5 (t : Nat) (ps : Array (Nat × Operand)) : SO P pr dr k ⟨d, .build t ps, ty, po, af, g⟩ s Q ↔ outK s d af (Q none) (buildX P t (TT.of P t) (partsX s.ev ps.toList)) :=
  SO_val _ (fun _ => by cases dr <;> rfl) fun _ => by simp only [val, buildX]; cases TT.of P t <;> cases partsX s.ev ps.toList <;> rfl
def buildSliceX (t : Tk) (n : Nat) : Option (Nat × TD) → Option (List (Nat × List X)) → Out
  | some (e, d), some qs =>
    if n * d.size ≤ 16777216 ∧ 0 < d.size ∧ d.zero.length = d.size then match fillX (fun i => some (i * d.size, d.size)) ((List.replicate n (zeroX d)).flatten) qs with
      | some xs => match X.rds xs with
        | some cs => out (.own t e d.size cs n)
        | none => none
      | none => none
    else none
  | _, _ => none
theorem Z6 (t n : Nat) (ps : Array (Nat × Operand)) : SO P pr dr k ⟨d, .buildSlice t n ps, ty, po, af, g⟩ s Q ↔ outK s d af (Q none) (buildSliceX (.nm s.clk k 0) n (elemOf (TT.of P) t) (partsX s.ev ps.toList)) :=
  SO_val _ (fun _ => by cases dr <;> rfl) fun _ => by simp only [val, buildSliceX]; cases elemOf (TT.of P) t <;> cases partsX s.ev ps.toList <;> rfl
theorem Zf (x : Operand) (t : Nat) : SO P pr dr k ⟨d, .call { callee := .builtin .len, args := #[x], argTypes := #[t] }, ty, po, af, g⟩ s Q ↔ outK s d af (Q none) (lenX ((TT.of P t).map (·.und)) (s.ev x)) := SO_val _ (fun _ => by cases dr <;> rfl) fun _ => rfl
theorem Z1 (a b : Operand) (st xt : Nat) : SO P pr dr k ⟨d, .call { callee := .builtin .append, args := #[a, b], argTypes := #[st, xt] }, ty, po, af, g⟩ s Q ↔ outK s d af (Q none) (appendX (TT.of P) (.nm s.clk k 0) st xt (s.ev a) (s.ev b)) := SO_val _ (fun _ => by cases dr <;> rfl) fun _ => rfl

def ifcX (t : Nat) : Bool → Option C → Out
  | true, some c => out (.of (.ifc t c))
  | _, _ => none
theorem Zj (t : Nat) (x : Operand) : SO P pr dr k ⟨d, .makeInterface t x, ty, po, af, g⟩ s Q ↔ outK s d af (Q none) (ifcX t (ifcD ((TT.of P t).map (·.und))) (s.ev x).rd) :=
  SO_val _ (fun _ => by cases dr <;> rfl) fun _ => by simp only [val, ifcX]; cases ifcD ((TT.of P t).map (·.und)) <;> cases (s.ev x).rd <;> rfl

/-- A call on plain data. -/
def plainK (s : S) (k : Nat) (d : Option Nat) (Q : Option X → S → Prop) : An → Prop
  | ⟨false, rs, []⟩ => Q none (s.put d (oneX (nameX s.clk k rs)))
  | _ => False
def plainQ (P : Program) (pr : Pr) (s : S) (k : Nat) (d : Option Nat) (Q : Option X → S → Prop) (f : Nat) (caps : List C) : Option (List C) → Prop
  | some cs => callable P f = true ∧ CallK P pr f ((cs ++ caps).map .of) [] (plainK s k d Q)
  | none => False
/-- A call that takes or gives objects. -/
def back2 (Q : Option X → S → Prop) : Option (Option X × S) → Prop
  | some (e, s) => Q e s
  | none => False
def backQ (s : S) (k : Nat) (d : Option Nat) (refs : List Nat) (ts : List Tk) (Q : Option X → S → Prop) (an : An) : Prop := back2 Q (backS s k d refs ts an)
def objQ2 (P : Program) (pr : Pr) (s : S) (k : Nat) (d : Option Nat) (refs : List Nat) (ts : List Tk) (Q : Option X → S → Prop) (f : Nat) (us : List X) : Option (List Ob) → Prop
  | some obs => callable P f = true ∧ CallK P pr f (X.trs (pos refs) (rhoIn refs ts) us) obs (backQ s k d refs ts Q)
  | none => False
def objQ1 (P : Program) (pr : Pr) (s : S) (k : Nat) (d : Option Nat) (Q : Option X → S → Prop) (f : Nat) (us : List X) (refs : List Nat) (ts : List Tk) : Prop :=
  objQ2 P pr s k d refs ts Q f us (pickObs (pos refs) (rhoIn refs ts) (dropTs ts s.objs) refs)
def toksB (b : Bool) (us : List X) : List Tk := match b with
  | true => nub (X.toksL us) []
  | false => []
def callB (P : Program) (pr : Pr) (dr : Bool) (s : S) (k : Nat) (d : Option Nat) (Q : Option X → S → Prop) (f : Nat) (us : List X) (caps : List C) (cs : Option (List C)) : Bool → Prop
  | true => dr = false ∧ objQ1 P pr s k d Q f us (reach s.objs 999 (X.refsL us) []) (toksB (pr.tk f) us)
  | false => plainQ P pr s k d Q f caps cs
def callT (P : Program) (pr : Pr) (dr : Bool) (s : S) (k : Nat) (d : Option Nat) (Q : Option X → S → Prop) (args : List X) (cs : Option (List C)) : X → Prop
  | .of (.fn f caps) => callB P pr dr s k d Q f (args ++ caps.map .of) caps cs (pr.obj f)
  | .clo f caps => pr.obj f = true ∧ dr = false ∧ objQ1 P pr s k d Q f (args ++ caps) (reach s.objs 999 (X.refsL (args ++ caps)) []) (toksB (pr.tk f) (args ++ caps))
  | _ => False

theorem callS_eq (n : Nat) (f : Nat) (us : List X) : (∃ e s', callS P (enN P pr n) s k d f us = some (e, s') ∧ Q e s') → objQ1 P pr s k d Q f us (reach s.objs 999 (X.refsL us) []) (toksB (pr.tk f) us) := by
  rintro ⟨e, s', h, hq⟩
  unfold callS at h
  split at h
  rotate_left
  · cases h
  rename_i hc
  simp only at h
  have ht : (if (enN P pr n).tk f = true then nub (X.toksL us) [] else []) = toksB (pr.tk f) us := by
    show (if pr.tk f = true then _ else _) = _
    cases pr.tk f <;> rfl
  rw [ht] at h
  unfold objQ1
  split at h
  · rename_i obs hobs
    rw [hobs]
    split at h
    · rename_i an han
      refine ⟨hc, an, ⟨n, han⟩, ?_⟩
      unfold backQ
      rw [h]
      exact hq
    · cases h
  · cases h
theorem callS_of (f : Nat) (us : List X) (h : objQ1 P pr s k d Q f us (reach s.objs 999 (X.refsL us) []) (toksB (pr.tk f) us)) : ∃ n e s', callS P (enN P pr n) s k d f us = some (e, s') ∧ Q e s' := by
  unfold objQ1 at h
  cases hobs : pickObs (pos (reach s.objs 999 (X.refsL us) [])) (rhoIn (reach s.objs 999 (X.refsL us) []) (toksB (pr.tk f) us)) (dropTs (toksB (pr.tk f) us) s.objs) (reach s.objs 999 (X.refsL us) []) with
  | none => rw [hobs] at h; exact h.elim
  | some obs =>
    rw [hobs] at h
    obtain ⟨hc, an, ⟨n, han⟩, hb⟩ := h
    unfold backQ at hb
    cases hbs : backS s k d (reach s.objs 999 (X.refsL us) []) (toksB (pr.tk f) us) an with
    | none => rw [hbs] at hb; exact hb.elim
    | some p =>
      obtain ⟨e, s'⟩ := p
      rw [hbs] at hb
      refine ⟨n, e, s', ?_, hb⟩
      unfold callS
      rw [if_pos hc]
      have ht : (if (enN P pr n).tk f = true then nub (X.toksL us) [] else []) = toksB (pr.tk f) us := by
        show (if pr.tk f = true then _ else _) = _
        cases pr.tk f <;> rfl
      simp only [ht, hobs, han, hbs]

theorem stepV_call (n : Nat) (f : Operand) (args : Array Operand) (tys : Array Nat) : stepV P (TT.of P) (enN P pr n) s k ⟨d, .call { callee := .value f, args := args, argTypes := tys }, ty, po, af, g⟩ = match s.ev f, rdAll s.ev args.toList with
    | .of (.fn f caps), some cs => (match callX P (enN P pr n) s.clk k f (cs ++ caps) with
      | some (x, t) => if okTk s.clk af.toList t = true then some (none, (s.drop t).put d x) else none
      | none => none)
    | _, _ => none := by
  simp only [stepV, val, valCall]
  split <;> rename_i h <;> split at h <;> simp_all

theorem plain_iff (f : Operand) (fn : Nat) (caps : List C) (args : Array Operand) (tys : Array Nat) (hf : s.ev f = .of (.fn fn caps)) (ho : pr.obj fn = false) :
    (∃ n e s', stepV P (TT.of P) (enN P pr n) s k ⟨d, .call { callee := .value f, args := args, argTypes := tys }, ty, po, af, g⟩ = some (e, s') ∧ Q e s') ↔ plainQ P pr s k d Q fn caps (rdAll s.ev args.toList) := by
  constructor
  · rintro ⟨n, e, s', h, hq⟩
    rw [stepV_call, hf] at h
    cases hr : rdAll s.ev args.toList with
    | none => rw [hr] at h; cases h
    | some cs =>
      rw [hr] at h
      simp only at h
      split at h
      · rename_i x t hx
        unfold callX at hx
        split at hx
        · rename_i hc
          simp only [Bool.and_eq_true] at hc
          split at hx
          · rename_i rs hor
            obtain ⟨rfl, rfl⟩ := out_inv hx
            simp only [okTk, if_true, Option.some.injEq, Prod.mk.injEq] at h
            obtain ⟨rfl, rfl⟩ := h
            exact ⟨hc.1, _, ⟨n, hor⟩, hq⟩
          · cases hx
        · cases hx
      · cases h
  · intro h
    cases hr : rdAll s.ev args.toList with
    | none => rw [hr] at h; exact h.elim
    | some cs =>
      rw [hr] at h
      obtain ⟨hc, an, ⟨n, hor⟩, hk⟩ := h
      match an, hor, hk with
      | ⟨false, rs, []⟩, hor, hk =>
        refine ⟨n, none, _, ?_, hk⟩
        rw [stepV_call, hf, hr]
        have : callX P (enN P pr n) s.clk k fn (cs ++ caps) = out (oneX (nameX s.clk k rs)) := by
          unfold callX
          have ho' : (enN P pr n).obj fn = false := ho
          rw [if_pos (by simp [hc, ho']), hor]
        simp only [this, out, okTk, if_true]
        rfl

/-- A call of a function value. -/
theorem SO_callV (f : Operand) (args : Array Operand) (tys : Array Nat) : SO P pr dr k ⟨d, .call { callee := .value f, args := args, argTypes := tys }, ty, po, af, g⟩ s Q ↔
    callT P pr dr s k d Q (args.toList.map s.ev) (rdAll s.ev args.toList) (s.ev f) := by
  have hst : ∀ n, step P (TT.of P) (enN P pr n) dr s k ⟨d, .call { callee := .value f, args := args, argTypes := tys }, ty, po, af, g⟩ = if dr = true then stepV P (TT.of P) (enN P pr n) s k ⟨d, .call { callee := .value f, args := args, argTypes := tys }, ty, po, af, g⟩ else
      match target s (.value f) args.toList with
      | some (g', us) => if pr.obj g' = true then callS P (enN P pr n) s k d g' us else stepV P (TT.of P) (enN P pr n) s k ⟨d, .call { callee := .value f, args := args, argTypes := tys }, ty, po, af, g⟩
      | none => none := fun n => by
    unfold step
    rfl
  have hV : ∀ (x : X), s.ev f = x → (∀ fn caps, x ≠ .of (.fn fn caps)) → ∀ n, stepV P (TT.of P) (enN P pr n) s k ⟨d, .call { callee := .value f, args := args, argTypes := tys }, ty, po, af, g⟩ = none := fun x hx hne n => by
    rw [stepV_call, hx]
    split
    · rename_i h; exact (hne _ _ rfl).elim
    · rfl
  unfold SO
  simp only [hst]
  cases hf : s.ev f with
  | of c =>
    cases c with
    | fn fn caps =>
      simp only [callT, target, hf]
      cases ho : pr.obj fn with
      | true =>
        simp only [callB]
        cases dr with
        | true =>
          simp only [if_true, Bool.true_eq_false, false_and, iff_false]
          rintro ⟨n, e, s', h, _⟩
          rw [stepV_call, hf] at h
          cases hr : rdAll s.ev args.toList with
          | none => rw [hr] at h; cases h
          | some cs =>
            rw [hr] at h
            have : callX P (enN P pr n) s.clk k fn (cs ++ caps) = none := by
              unfold callX
              have ho' : (enN P pr n).obj fn = true := ho
              rw [if_neg (by simp [ho'])]
            simp [this] at h
        | false =>
          simp only [Bool.false_eq_true, if_false, if_true, true_and]
          constructor
          · rintro ⟨n, e, s', h, hq⟩; exact callS_eq k d s Q n fn _ ⟨e, s', h, hq⟩
          · intro h; exact callS_of k d s Q fn _ h
      | false =>
        simp only [callB]
        rw [← plain_iff k d ty po af g s Q f fn caps args tys hf ho]
        cases dr with
        | true => simp only [if_true]
        | false => simp only [Bool.false_eq_true, if_false]
    | _ =>
      simp only [callT, iff_false]
      rintro ⟨n, e, s', h, _⟩
      rw [hV _ hf (fun _ _ e => by cases e) n] at h
      simp [target, hf] at h
  | clo fn caps =>
    simp only [callT, target, hf]
    have hn := hV _ hf (fun _ _ e => by cases e)
    cases dr with
    | true =>
      simp only [if_true, Bool.true_eq_false, false_and, and_false, iff_false]
      rintro ⟨n, e, s', h, _⟩
      rw [hn] at h
      cases h
    | false =>
      simp only [Bool.false_eq_true, if_false, true_and]
      cases ho : pr.obj fn with
      | true =>
        simp only [if_true, true_and]
        constructor
        · rintro ⟨n, e, s', h, hq⟩; exact callS_eq k d s Q n fn _ ⟨e, s', h, hq⟩
        · intro h; exact callS_of k d s Q fn _ h
      | false =>
        simp only [Bool.false_eq_true, if_false, false_and, iff_false]
        rintro ⟨n, e, s', h, _⟩
        rw [hn] at h
        cases h
  | _ =>
    simp only [callT, iff_false]
    rintro ⟨n, e, s', h, _⟩
    rw [hV _ hf (fun _ _ e => by cases e) n] at h
    simp [target, hf] at h

/-- A call of a function. -/
theorem Z7 (f : Nat) (args : Array Operand) (tys : Array Nat) : SO P pr dr k ⟨d, .call { callee := .value (.func f), args := args, argTypes := tys }, ty, po, af, g⟩ s Q ↔
    callB P pr dr s k d Q f (args.toList.map s.ev) [] (rdAll s.ev args.toList) (pr.obj f) := by
  rw [SO_callV]
  simp only [S.ev, callT, List.map_nil, List.append_nil]

/-- A call of a function value in a slot. -/
theorem Z8 (t : Nat) (args : Array Operand) (tys : Array Nat) : SO P pr dr k ⟨d, .call { callee := .value (.tmp t), args := args, argTypes := tys }, ty, po, af, g⟩ s Q ↔
    callT P pr dr s k d Q (args.toList.map s.ev) (rdAll s.ev args.toList) (s.fr t) := SO_callV dr k d ty po af g s Q (.tmp t) args tys

theorem Zh (t : Nat) (x i : Operand) (ok : Bool) : SO P pr dr k ⟨d, .lookup t x i ok, ty, po, af, g⟩ s Q ↔ outK s d af (Q none) (lookupX (TT.of P) s.objs t (s.ev x) (s.ev i) ok) := SO_val _ (fun _ => by cases dr <;> rfl) fun _ => rfl

theorem SO_step {o : Oper} (v : Option S) (h : ∀ n, step P (TT.of P) (enN P pr n) false s k o = v.map fun s => (none, s)) : SO P pr false k o s Q ↔ optQ (Q none) v := by
  unfold SO
  simp only [h]
  cases v with
  | none => simp [optQ]
  | some s' =>
    constructor
    · rintro ⟨n, e, s1, h1, h2⟩
      simp only [Option.map_some, Option.some.injEq, Prod.mk.injEq] at h1
      obtain ⟨rfl, rfl⟩ := h1
      exact h2
    · intro h1
      exact ⟨0, none, s', rfl, h1⟩

def allocO (s : S) (d : Option Nat) (ty : Nat) : Option (List X) → Option S
  | some xs => some (allocS s d ty xs)
  | none => none
theorem Z0 (t : Nat) : SO P pr false k ⟨d, .alloc t, ty, po, af, g⟩ s Q ↔ optQ (Q none) (allocO s d t ((TT.of P t).map zeroX)) :=
  SO_step k s Q _ fun n => by
    simp only [step, Bool.false_eq_true, if_false]
    cases TT.of P t <;> rfl
def boxO : Option TD → Option (List X) → Option (List X)
  | some d, some xs => if xs.length = d.size then some xs else none
  | _, _ => none
theorem Z4 (t : Nat) (x : Operand) : SO P pr false k ⟨d, .box t x, ty, po, af, g⟩ s Q ↔ optQ (Q none) (allocO s d t (boxO (TT.of P t) (cellsX (s.ev x)))) :=
  SO_step k s Q _ fun n => by
    simp only [step, Bool.false_eq_true, if_false]
    cases TT.of P t with
    | none => rfl
    | some td =>
      cases cellsX (s.ev x) with
      | none => rfl
      | some xs => simp only [boxO]; split <;> rfl
def storeO (s : S) (d : Option Nat) : Option TD → X → Option (List X) → Option S
  | some td, .ptr r off, some xs => storeS s d td.size r off xs
  | _, _, _ => none
theorem Zq (t : Nat) (a x : Operand) : SO P pr false k ⟨d, .store t a x, ty, po, af, g⟩ s Q ↔ optQ (Q none) (storeO s d (TT.of P t) (s.ev a) (cellsX (s.ev x))) :=
  SO_step k s Q _ fun n => by
    simp only [step, Bool.false_eq_true, if_false, storeO]
    cases TT.of P t with
    | none => rfl
    | some td =>
      cases s.ev a <;> cases cellsX (s.ev x) <;> rfl
theorem Zk (t : Nat) : SO P pr false k ⟨d, .makeMap t none, ty, po, af, g⟩ s Q ↔ Q none ({ s with objs := s.objs ++ [Ob.map []] }.put d (.mp s.objs.length)) :=
  SO_step k s Q (some _) fun n => rfl
def obMap : Option Ob → Option (List (Value × C))
  | some (.map es) => some es
  | _ => none
def putO (kind : TypeDesc) (kv : Option Value) (c : Option C) (es : Option (List (Value × C))) : Option (List (Value × C)) := match kv, c, es with
  | some kv, some c, some es => putX kind kv c es
  | _, _, _ => none
def updO (s : S) (d : Option Nat) (x : X) (r : Nat) : Option (List (Value × C)) → Option S
  | some es => some ({ s with objs := s.objs.set r (Ob.map es) }.put d x)
  | none => none
def mapUpdO (s : S) (d : Option Nat) (x : X) : X → (Nat → Option (List (Value × C))) → Option S
  | .mp r, F => updO s d x r (F r)
  | _, _ => none
theorem SO_mapUpdate {kind : TypeDesc} {et : Nat} (t : Nat) (m kx x : Operand) (ht : mapTy (TT.of P) t = some (kind, et)) : SO P pr false k ⟨d, .mapUpdate t m kx x, ty, po, af, g⟩ s Q ↔
    optQ (Q none) (mapUpdO s d (.of .undef) (s.ev m) fun r => putO kind (litOf (s.ev kx)) (s.ev x).rd (obMap (s.objs[r]?))) :=
  SO_step k s Q _ fun n => by
    simp only [step, Bool.false_eq_true, if_false, ht]
    cases s.ev m with
    | mp r =>
      simp only [mapUpdO]
      cases litOf (s.ev kx) with
      | none => rfl
      | some kv =>
        cases (s.ev x).rd with
        | none => rfl
        | some c =>
          cases hr : s.objs[r]? with
          | none => simp only [hr]; rfl
          | some ob =>
            cases ob with
            | var _ _ => simp only [hr]; rfl
            | map es => simp only [hr, obMap, putO, updO]; cases putX kind kv c es <;> rfl
    | _ => rfl
def delO (kind : TypeDesc) (kv : Option Value) (es : Option (List (Value × C))) : Option (List (Value × C)) := match kv, es with
  | some kv, some es => delX kind kv es
  | _, _ => none
theorem SO_delete {kind : TypeDesc} {et : Nat} (t t2 : Nat) (m kx : Operand) (ht : mapTy (TT.of P) t = some (kind, et)) : SO P pr false k ⟨d, .call { callee := .builtin .delete, args := #[m, kx], argTypes := #[t, t2] }, ty, po, af, g⟩ s Q ↔
    optQ (Q none) (mapUpdO s d (.tup []) (s.ev m) fun r => delO kind (litOf (s.ev kx)) (obMap (s.objs[r]?))) :=
  SO_step k s Q _ fun n => by
    simp only [step, Bool.false_eq_true, if_false, ht]
    cases s.ev m with
    | mp r =>
      simp only [mapUpdO]
      cases litOf (s.ev kx) with
      | none => rfl
      | some kv =>
        cases hr : s.objs[r]? with
        | none => simp only [hr]; rfl
        | some ob =>
          cases ob with
          | var _ _ => simp only [hr]; rfl
          | map es => simp only [hr, obMap, delO, updO]; cases delX kind kv es <;> rfl
    | _ => rfl
def panQ (Q : Option X → S → Prop) (s : S) : Option C → Prop
  | some (.ifc t c) => Q (some (.of (.ifc t c))) s
  | _ => False
theorem Zn (x : Operand) : SO P pr false k ⟨d, .panic x, ty, po, af, g⟩ s Q ↔ panQ Q s (s.ev x).rd := by
  have h : ∀ n, step P (TT.of P) (enN P pr n) false s k ⟨d, .panic x, ty, po, af, g⟩ = match (s.ev x).rd with
    | some (.ifc t c) => some (some (.of (.ifc t c)), s)
    | _ => none := fun n => rfl
  unfold SO
  simp only [h]
  cases (s.ev x).rd with
  | none => simp [panQ]
  | some c =>
    cases c with
    | ifc t c =>
      simp only [panQ]
      exact ⟨fun ⟨n, e, s1, h1, h2⟩ => by
        simp only [Option.some.injEq, Prod.mk.injEq] at h1
        obtain ⟨rfl, rfl⟩ := h1
        exact h2, fun h1 => ⟨0, _, s, rfl, h1⟩⟩
    | _ => simp [panQ]
end

/-- A function's answer, by its body. -/
def endQ (P : Program) (f m : Nat) (an : An) : Ex → S → Prop
  | .normal, s => ((resXs (TT.of P) s (resVars P f)).bind fun rs => leave m false rs s.objs) = some an
  | .ret, s => ((resXs (TT.of P) s (resVars P f)).bind fun rs => leave m false rs s.objs) = some an
  | .pan x, s => leave m true [x] s.objs = some an
  | .exit _, _ => False

theorem Gives.of_body {f : Nat} {xs : List X} {obs : List Ob} {an : An} (hp : pr.prim f xs obs = none) (hok : fnOk P f = true) (har : xs.length ≤ arity P f) (h : WC P pr (bodyOf P f) (initS xs obs) (endQ P f obs.length an)) : Gives P pr f xs obs an := by
  obtain ⟨n, e, s', h1, hq⟩ := h
  refine ⟨n, ?_⟩
  unfold enN enOf orcOf callOf
  simp only
  rw [hp]
  simp only [hok, har, and_self, if_true, h1]
  cases e with
  | normal => exact hq
  | ret => exact hq
  | pan x => exact hq
  | exit i => exact hq.elim

theorem Gives.of_prim {f : Nat} {xs : List X} {obs : List Ob} {an : An} (hp : pr.prim f xs obs = some an) : Gives P pr f xs obs an := ⟨0, by unfold enN enOf orcOf; simp only; rw [hp]⟩

/-- What is told of a call holds of the program. -/
theorem Gives.sound (hm : P.follows .mixedOrders = true) {G : GP} (hpr : PrSound P G pr) {f : Nat} {xs : List X} {obs : List Ob} {an : An} (h : Gives P pr f xs obs an) : Sound P G f xs obs an := by
  obtain ⟨n, hn⟩ := h
  exact (en_of_code hpr (code_sound hm hpr n)).orc f xs obs an hn
end
end Go.Pe
namespace Go.Pe

section
variable (s : S) (d j : Nat) (x : X) (t : Tk)
theorem Z64 : (s.put (some d) x).fr j = if j = d then x else s.fr j := rfl
theorem Z66 (d : Option Nat) : (s.put d x).objs = s.objs := by cases d <;> rfl
theorem Z63 (d : Option Nat) : (s.put d x).clk = s.clk := by cases d <;> rfl
theorem Z65 : s.put none x = s := rfl
theorem Z2x : (s.drop (some t)).fr j = (s.fr j).drop t := rfl
theorem Z2y : (s.drop (some t)).objs = s.objs.map (Ob.drop t) := rfl
theorem Z2w : (s.drop (some t)).clk = s.clk := rfl
theorem Z3e (n : Nat) : s.ev (.tmp n) = s.fr n := rfl
theorem Z3c (v : Value) : s.ev (.const v) = ofVal v := rfl
theorem Z3d (f : Nat) : s.ev (.func f) = .of (.fn f []) := rfl
end
theorem Z5c (k : IntKind) (n : Int) : ofVal (.int k n) = .of (.lit (.int k n)) := rfl
theorem Z5b (b : Bool) : ofVal (.bool b) = .of (.lit (.bool b)) := rfl
theorem Z5g (b : ByteArray) : ofVal (.string b) = .of (.lit (.string b)) := rfl
theorem Z5e : ofVal (.slice none 0 0) = .nil := rfl
theorem Z5f : ofVal (.pointer none) = .of (.lit (.pointer none)) := rfl
theorem Z5d : ofVal (.map none) = .of (.lit (.map none)) := rfl

def initF : List X → Nat → X
  | [], _ => .of .undef
  | c :: _, 0 => c
  | _ :: cs, j + 1 => initF cs j
theorem Z3y (obs : List Ob) : ∀ (xs : List X) (j : Nat), (initS xs obs).fr j = initF xs j
  | [], j => rfl
  | c :: cs, 0 => rfl
  | c :: cs, j + 1 => by have := Z3y obs cs j; simpa [initS, initF] using this
theorem Z3z (xs : List X) (obs : List Ob) : (initS xs obs).objs = obs := rfl
theorem Z3x (xs : List X) (obs : List Ob) : (initS xs obs).clk = 1 := rfl
theorem Z3u (j : Nat) : initF [] j = .of .undef := rfl
theorem Z3w (x : X) (xs : List X) : initF (x :: xs) 0 = x := rfl
theorem Z3v (x : X) (xs : List X) (j : Nat) : initF (x :: xs) (j + 1) = initF xs j := rfl

theorem Z7b (P : Program) (pr : Pr) (b : Code) (Q : Ex → S → Prop) (s : S) : thenQ P pr b Q .normal s ↔ WC P pr b s Q := Iff.rfl
theorem Z7a (P : Program) (pr : Pr) (b : Code) (Q : Ex → S → Prop) (i : Nat) (s : S) : thenQ P pr b Q (.exit i) s ↔ Q (.exit i) s := Iff.rfl
theorem Z7d (P : Program) (pr : Pr) (b : Code) (Q : Ex → S → Prop) (s : S) : thenQ P pr b Q .ret s ↔ Q .ret s := Iff.rfl
theorem Z7c (P : Program) (pr : Pr) (b : Code) (Q : Ex → S → Prop) (x : X) (s : S) : thenQ P pr b Q (.pan x) s ↔ Q (.pan x) s := Iff.rfl
theorem Z20 (i : Nat) (Q : Ex → S → Prop) (x : X) (s : S) : blockQ i Q (.pan x) s ↔ Q (.pan x) s := Iff.rfl
theorem Z1z (i : Nat) (Q : Ex → S → Prop) (s : S) : blockQ i Q .normal s ↔ Q .normal s := Iff.rfl
theorem Z1y (i j : Nat) (Q : Ex → S → Prop) (s : S) : blockQ i Q (.exit j) s ↔ if j = i then Q .normal s else Q (.exit j) s := Iff.rfl
theorem Z21 (i : Nat) (Q : Ex → S → Prop) (s : S) : blockQ i Q .ret s ↔ Q .ret s := Iff.rfl
def S.tk (s : S) : S := { s with clk := s.clk + 1 }
theorem Z7f (s : S) (j : Nat) : s.tk.fr j = s.fr j := rfl
theorem Z7g (s : S) : s.tk.objs = s.objs := rfl
theorem Z7e (s : S) : s.tk.clk = s.clk + 1 := rfl
theorem Z6o (Q : Ex → S → Prop) (s : S) : regQ Q none s ↔ Q .normal s.tk := Iff.rfl
theorem Z6p (Q : Ex → S → Prop) (x : X) (s : S) : regQ Q (some x) s ↔ Q (.pan x) s.tk := Iff.rfl
theorem Z4s (F : S → Prop) (Q : Option X → S → Prop) (s : S) : nextQ F Q none s ↔ F s := Iff.rfl
theorem Z4t (F : S → Prop) (Q : Option X → S → Prop) (x : X) (s : S) : nextQ F Q (some x) s ↔ Q (some x) s := Iff.rfl
theorem Z2p (b : Bool) (p q : Prop) : condQ (some b) p q ↔ if b = true then p else q := Iff.rfl
theorem Z3o (ops : Array Oper) (s : S) (d : Option Nat) (op : Op) (ty : Nat) (pos : String) (af : Array Edge) : guardOk ops s ⟨d, op, ty, pos, af, none⟩ = some true := rfl

def guardV (want : Bool) : X → Option Bool
  | .of (.lit (.bool b)) => some (b == want)
  | .of .undef => some false
  | _ => none
def guardD (s : S) (want : Bool) : Option Nat → Option Bool
  | some d => guardV want (s.fr d)
  | none => some false
theorem Z3p (ops : Array Oper) (s : S) (d : Option Nat) (op : Op) (ty : Nat) (pos : String) (af : Array Edge) (j : Nat) (want : Bool) :
    guardOk ops s ⟨d, op, ty, pos, af, some (j, want)⟩ = guardD s want ((ops[j]?).bind (·.dst)) := by
  simp only [guardOk]
  cases (ops[j]?).bind (·.dst) with
  | none => rfl
  | some d => rfl
theorem Z3n (s : S) (want : Bool) (d : Nat) : guardD s want (some d) = guardV want (s.fr d) := rfl
theorem Z3q (want b : Bool) : guardV want (.of (.lit (.bool b))) = some (b == want) := rfl
theorem Z3r (want : Bool) : guardV want (.of .undef) = some false := rfl

theorem Z5p (s : S) (d : Option Nat) (af : Array Edge) (K : S → Prop) (x : X) : outK s d af K (out x) ↔ K (s.put d x) := Iff.rfl
theorem Z5q (s : S) (d : Option Nat) (af : Array Edge) (K : S → Prop) (x : X) : outK s d af K (outO (some x)) ↔ K (s.put d x) := Iff.rfl
theorem Z5r (s : S) (d : Option Nat) (af : Array Edge) (K : S → Prop) (x : X) (t : Tk) : outK s d af K (some (x, some t)) ↔ okTk s.clk af.toList (some t) = true ∧ K ((s.drop (some t)).put d x) := Iff.rfl
theorem Z5o (s : S) (d : Option Nat) (af : Array Edge) (K : S → Prop) (x : X) : outK s d af K (some (x, none)) ↔ K (s.put d x) := Iff.rfl
theorem Z3s (b : Bool) (p q : Prop) : guardQ (some b) p q ↔ if b = true then p else q := by cases b <;> simp [guardQ]

theorem Zv (P : Program) (pr : Pr) (id : Nat) (l : List Oper) (draw : Bool) (s : S) (Q : Ex → S → Prop) : WC P pr (.region id l.toArray draw) s Q ↔ WO P pr draw l.toArray 0 l s (regQ Q) := WC_region id l.toArray draw s Q

theorem guardQ_cg {g g' : Option Bool} (p q : Prop) (h : Unit → g = g') : guardQ g p q = guardQ g' p q := by rw [h ()]
theorem condQ_cg {g g' : Option Bool} (p q : Prop) (h : Unit → g = g') : condQ g p q = condQ g' p q := by rw [h ()]
theorem outK_cg (s : S) (d : Option Nat) (af : Array Edge) (K : S → Prop) {v v' : Out} (h : Unit → v = v') : outK s d af K v = outK s d af K v' := by rw [h ()]
theorem optQ_cg (Q : S → Prop) {v v' : Option S} (h : Unit → v = v') : optQ Q v = optQ Q v' := by rw [h ()]
theorem CallK_cg (P : Program) (pr : Pr) (f : Nat) {xs xs' : List X} {obs obs' : List Ob} (K : An → Prop) (h : Unit → xs = xs') (h' : Unit → obs = obs') : CallK P pr f xs obs K = CallK P pr f xs' obs' K := by rw [h (), h' ()]
theorem callB_cg (P : Program) (pr : Pr) (dr : Bool) (s : S) (k : Nat) (d : Option Nat) (Q : Option X → S → Prop) (f : Nat) {us us' : List X} (caps : List C) {cs cs' : Option (List C)} {b b' : Bool} (h1 : Unit → us = us') (h2 : Unit → cs = cs') (h3 : Unit → b = b') :
    callB P pr dr s k d Q f us caps cs b = callB P pr dr s k d Q f us' caps cs' b' := by rw [h1 (), h2 (), h3 ()]
theorem callT_cg (P : Program) (pr : Pr) (dr : Bool) (s : S) (k : Nat) (d : Option Nat) (Q : Option X → S → Prop) {us us' : List X} {cs cs' : Option (List C)} {x x' : X} (h1 : Unit → us = us') (h2 : Unit → cs = cs') (h3 : Unit → x = x') :
    callT P pr dr s k d Q us cs x = callT P pr dr s k d Q us' cs' x' := by rw [h1 (), h2 (), h3 ()]
theorem plainQ_cg (P : Program) (pr : Pr) (s : S) (k : Nat) (d : Option Nat) (Q : Option X → S → Prop) (f : Nat) (caps : List C) {cs cs' : Option (List C)} (h : Unit → cs = cs') : plainQ P pr s k d Q f caps cs = plainQ P pr s k d Q f caps cs' := by rw [h ()]
theorem objQ1_cg (P : Program) (pr : Pr) (s : S) (k : Nat) (d : Option Nat) (Q : Option X → S → Prop) (f : Nat) {us us' : List X} {refs refs' : List Nat} {ts ts' : List Tk} (h1 : Unit → us = us') (h2 : Unit → refs = refs') (h3 : Unit → ts = ts') :
    objQ1 P pr s k d Q f us refs ts = objQ1 P pr s k d Q f us' refs' ts' := by rw [h1 (), h2 (), h3 ()]
theorem objQ2_cg (P : Program) (pr : Pr) (s : S) (k : Nat) (d : Option Nat) (refs : List Nat) (ts : List Tk) (Q : Option X → S → Prop) (f : Nat) (us : List X) {obs obs' : Option (List Ob)} (h1 : Unit → obs = obs') :
    objQ2 P pr s k d refs ts Q f us obs = objQ2 P pr s k d refs ts Q f us obs' := by rw [h1 ()]
theorem panQ_cg (Q : Option X → S → Prop) (s : S) {c c' : Option C} (h : Unit → c = c') : panQ Q s c = panQ Q s c' := by rw [h ()]
attribute [congr] guardQ_cg condQ_cg outK_cg optQ_cg CallK_cg callB_cg callT_cg plainQ_cg objQ1_cg objQ2_cg panQ_cg

section
variable (P : Program) (T : TT) (t : Nat) (u : Option TypeDesc) (k : IntKind) (a b : Int)
theorem Z1n : binX P T t u .lss (.of (.lit (.int k a))) (.of (.lit (.int k b))) = out (xbool (decide (a < b))) := by simp [binX, litOf, binLit, binInt, outO, out]
theorem Z1m : binX P T t u .leq (.of (.lit (.int k a))) (.of (.lit (.int k b))) = out (xbool (decide (a ≤ b))) := by simp [binX, litOf, binLit, binInt, outO, out]
theorem Z1l : binX P T t u .gtr (.of (.lit (.int k a))) (.of (.lit (.int k b))) = out (xbool (decide (b < a))) := by simp [binX, litOf, binLit, binInt, outO, out]
theorem Z1k : binX P T t u .geq (.of (.lit (.int k a))) (.of (.lit (.int k b))) = out (xbool (decide (b ≤ a))) := by simp [binX, litOf, binLit, binInt, outO, out]
theorem Z1j : binX P T t u .eql (.of (.lit (.int k a))) (.of (.lit (.int k b))) = out (xbool (decide (a = b))) := by simp [binX, litOf, binLit, binInt, outO, out]
theorem Z1p : binX P T t u .neq (.of (.lit (.int k a))) (.of (.lit (.int k b))) = out (xbool (!decide (a = b))) := by simp [binX, litOf, binLit, binInt, outO, out]
theorem Z1g : binX P T t u .add (.of (.lit (.int k a))) (.of (.lit (.int k b))) = out (.of (.lit (.int k (k.wrap (a + b))))) := by simp [binX, litOf, binLit, binInt, outO, out]
theorem Z1t : binX P T t u .sub (.of (.lit (.int k a))) (.of (.lit (.int k b))) = out (.of (.lit (.int k (k.wrap (a - b))))) := by simp [binX, litOf, binLit, binInt, outO, out]
theorem Z1o : binX P T t u .mul (.of (.lit (.int k a))) (.of (.lit (.int k b))) = out (.of (.lit (.int k (k.wrap (a * b))))) := by simp [binX, litOf, binLit, binInt, outO, out]
theorem Z1r (x y : ByteArray) : binX P T t u .eql (.of (.lit (.string x))) (.of (.lit (.string y))) = out (xbool (decide (x = y))) := by simp [binX, litOf, binLit, binStr, outO, out]
theorem Z1s (x y : ByteArray) : binX P T t u .neq (.of (.lit (.string x))) (.of (.lit (.string y))) = out (xbool (!decide (x = y))) := by simp [binX, litOf, binLit, binStr, outO, out]
theorem Z1q (x y : ByteArray) : binX P T t u .add (.of (.lit (.string x))) (.of (.lit (.string y))) = if x.size + y.size ≤ LIM then out (xstr (x ++ y)) else none := by
  simp only [binX, litOf, binLit, binStr]
  split <;> rfl
theorem Z1h (x y : Bool) : binX P T t (some .bool) .eql (.of (.lit (.bool x))) (.of (.lit (.bool y))) = out (xbool (x == y)) := by simp [binX, litOf, binLit, binBool, isBoolD, outO, out]
theorem Z1i (x y : Bool) : binX P T t (some .bool) .neq (.of (.lit (.bool x))) (.of (.lit (.bool y))) = out (xbool (!(x == y))) := by simp [binX, litOf, binLit, binBool, isBoolD, outO, out]
theorem Z88 (b : Bool) : unX .not (.of (.lit (.bool b))) = out (xbool (!b)) := rfl
theorem Z87 : unX .neg (.of (.lit (.int k a))) = out (.of (.lit (.int k (k.wrap (0 - a))))) := rfl
end
theorem Z4d (b : Bool) : litBool (.of (.lit (.bool b))) = some b := rfl
theorem Z4e (n : Int) : litInt (.of (.lit (.int .i64 n))) = some n := rfl
theorem Z4f (v : Value) : litOf (.of (.lit v)) = some v := rfl
theorem Z5y (s : S) (x y : Operand) (b : Bool) : pickO s x y (some b) = out (if b = true then s.ev x else s.ev y) := rfl
theorem Z4b (s : ByteArray) : lenX (some .string) (.of (.lit (.string s))) = out (xint s.size) := rfl
theorem Z4a (e : Nat) (cs : List C) (n : Nat) : lenX (some (.slice e)) (.of (.sl cs n)) = out (xint n) := rfl
theorem Z49 (e : Nat) (t : Tk) (e' z : Nat) (cs : List C) (n : Nat) : lenX (some (.slice e)) (.own t e' z cs n) = out (xint n) := rfl
theorem Z48 (e : Nat) : lenX (some (.slice e)) .nil = out (xint 0) := rfl
theorem Z5n (s : S) (d : Option Nat) (af : Array Edge) (K : S → Prop) (c : Prop) [Decidable c] (v : Out) : outK s d af K (if c then v else none) ↔ c ∧ outK s d af K v := by
  split
  · simp [*]
  · simp [*, outK]
theorem Z16 (cs : List C) (n : Nat) : asSl (.of (.sl cs n)) = some (cs, n) := rfl
theorem Z17 (t : Tk) (e z : Nat) (cs : List C) (n : Nat) : asSl (.own t e z cs n) = some (cs, n) := rfl
theorem Z15 : asSl .nil = some ([], 0) := rfl
theorem Z6a (c : C) : X.rd (.of c) = some c := rfl
theorem Z6b (t : Tk) (e z : Nat) (cs : List C) (n : Nat) : X.rd (.own t e z cs n) = some (.sl cs n) := rfl
theorem Z69 : X.rd .nil = some (.sl [] 0) := rfl
theorem Z68 (f : Operand → X) : rdAll f [] = some [] := rfl
def consO (c : Option C) (cs : Option (List C)) : Option (List C) := match c, cs with
  | some c, some cs => some (c :: cs)
  | _, _ => none
theorem Z67 (f : Operand → X) (x : Operand) (r : List Operand) : rdAll f (x :: r) = consO (f x).rd (rdAll f r) := by
  simp only [rdAll, consO]
  cases (f x).rd <;> cases rdAll f r <;> rfl
theorem Z2q (c : C) (cs : List C) : consO (some c) (some cs) = some (c :: cs) := rfl
theorem Z22 (P : Program) (pr : Pr) (dr : Bool) (s : S) (k : Nat) (d : Option Nat) (Q : Option X → S → Prop) (f : Nat) (us : List X) (caps : List C) (cs : Option (List C)) : callB P pr dr s k d Q f us caps cs false ↔ plainQ P pr s k d Q f caps cs := Iff.rfl
theorem Z23 (P : Program) (pr : Pr) (dr : Bool) (s : S) (k : Nat) (d : Option Nat) (Q : Option X → S → Prop) (f : Nat) (us : List X) (caps : List C) (cs : Option (List C)) : callB P pr dr s k d Q f us caps cs true ↔ dr = false ∧ objQ1 P pr s k d Q f us (reach s.objs 999 (X.refsL us) []) (toksB (pr.tk f) us) := Iff.rfl
theorem Z25 (P : Program) (pr : Pr) (dr : Bool) (s : S) (k : Nat) (d : Option Nat) (Q : Option X → S → Prop) (args : List X) (cs : Option (List C)) (f : Nat) (caps : List C) : callT P pr dr s k d Q args cs (.of (.fn f caps)) ↔ callB P pr dr s k d Q f (args ++ caps.map .of) caps cs (pr.obj f) := Iff.rfl
theorem Z24 (P : Program) (pr : Pr) (dr : Bool) (s : S) (k : Nat) (d : Option Nat) (Q : Option X → S → Prop) (args : List X) (cs : Option (List C)) (f : Nat) (caps : List X) : callT P pr dr s k d Q args cs (.clo f caps) ↔ pr.obj f = true ∧ dr = false ∧ objQ1 P pr s k d Q f (args ++ caps) (reach s.objs 999 (X.refsL (args ++ caps)) []) (toksB (pr.tk f) (args ++ caps)) := Iff.rfl
theorem Z60 (P : Program) (pr : Pr) (s : S) (k : Nat) (d : Option Nat) (Q : Option X → S → Prop) (f : Nat) (caps cs : List C) : plainQ P pr s k d Q f caps (some cs) ↔ callable P f = true ∧ CallK P pr f ((cs ++ caps).map .of) [] (plainK s k d Q) := Iff.rfl
/-- What is worked out first. -/
def letV {α : Type} (v : α) (K : α → Prop) : Prop := K v
theorem letV_cg {α : Type} {v v' : α} (K : α → Prop) (h : Unit → v = v') : letV v K = letV v' K := by rw [h ()]
attribute [congr] letV_cg
theorem Z4c {α : Type} (v : α) (K : α → Prop) : letV v K ↔ K v := Iff.rfl
theorem Z5z (s : S) (k : Nat) (d : Option Nat) (Q : Option X → S → Prop) (rs : List X) : plainK s k d Q ⟨false, rs, []⟩ ↔ letV (oneX (nameX s.clk k rs)) fun x => Q none (s.put d x) := Iff.rfl
theorem Z55 (P : Program) (pr : Pr) (s : S) (k : Nat) (d : Option Nat) (Q : Option X → S → Prop) (f : Nat) (us : List X) (refs : List Nat) (ts : List Tk) : objQ1 P pr s k d Q f us refs ts ↔ objQ2 P pr s k d refs ts Q f us (pickObs (pos refs) (rhoIn refs ts) (dropTs ts s.objs) refs) := Iff.rfl
theorem Z56 (P : Program) (pr : Pr) (s : S) (k : Nat) (d : Option Nat) (refs : List Nat) (ts : List Tk) (Q : Option X → S → Prop) (f : Nat) (us : List X) (obs : List Ob) : objQ2 P pr s k d refs ts Q f us (some obs) ↔ callable P f = true ∧ CallK P pr f (X.trs (pos refs) (rhoIn refs ts) us) obs (backQ s k d refs ts Q) := Iff.rfl
/-- The slots behind a call. -/
def S.bfr (s : S) (refs : List Nat) (ts : List Tk) : S := { s with fr := fun j => (s.fr j).tr some (keepTk refs ts) }
def S.withO (s : S) (objs : List Ob) : S := { s with objs := objs }
/-- The objects behind a call. -/
def backO (refs : List Nat) (ts : List Tk) (clk k : Nat) (objs obs : List Ob) : List Ob := setObs (fun i => some (sigBack refs objs.length i)) (rhoBack refs objs.length clk k) (objs.map (Ob.tr some (keepTk refs ts))) refs obs ++ (obs.drop refs.length).map (Ob.tr (fun i => some (sigBack refs objs.length i)) (rhoBack refs objs.length clk k))
theorem Z1a (refs : List Nat) (ts : List Tk) (clk k : Nat) (objs obs : List Ob) : backO refs ts clk k objs obs = setObs (fun i => some (sigBack refs objs.length i)) (rhoBack refs objs.length clk k) (objs.map (Ob.tr some (keepTk refs ts))) refs obs ++ (obs.drop refs.length).map (Ob.tr (fun i => some (sigBack refs objs.length i)) (rhoBack refs objs.length clk k)) := rfl
theorem Z1b (s : S) (k : Nat) (d : Option Nat) (refs : List Nat) (ts : List Tk) (Q : Option X → S → Prop) (rs : List X) (obs : List Ob) (h : refs.length ≤ obs.length) :
    backQ s k d refs ts Q ⟨false, rs, obs⟩ ↔ letV (backO refs ts s.clk k s.objs obs) fun o => letV (oneX (X.trs (fun i => some (sigBack refs s.objs.length i)) (rhoBack refs s.objs.length s.clk k) rs)) fun x => Q none (((s.bfr refs ts).withO o).put d x) := by
  unfold backQ backS
  rw [if_pos h]
  rfl
theorem Z1c (s : S) (k : Nat) (d : Option Nat) (refs : List Nat) (ts : List Tk) (Q : Option X → S → Prop) (x : X) (obs : List Ob) (h : refs.length ≤ obs.length) :
    backQ s k d refs ts Q ⟨true, [x], obs⟩ ↔ letV (backO refs ts s.clk k s.objs obs) fun o => Q (some (x.tr (fun i => some (sigBack refs s.objs.length i)) (rhoBack refs s.objs.length s.clk k))) ((s.bfr refs ts).withO o) := by
  unfold backQ backS
  rw [if_pos h]
  rfl
theorem Z1e (s : S) (refs : List Nat) (ts : List Tk) (j : Nat) : (s.bfr refs ts).fr j = (s.fr j).tr some (keepTk refs ts) := rfl
theorem Z1d (s : S) (refs : List Nat) (ts : List Tk) : (s.bfr refs ts).clk = s.clk := rfl
theorem Z1f (s : S) (refs : List Nat) (ts : List Tk) : (s.bfr refs ts).objs = s.objs := rfl
section
variable (σ : Nat → Option Nat) (ρ : Tk → Option Tk)
theorem Z81 (c : C) : (X.of c).tr σ ρ = .of c := rfl
theorem Z80 : X.nil.tr σ ρ = .nil := rfl
theorem Z7x (xs : List X) : (X.agg xs).tr σ ρ = .agg (X.trs σ ρ xs) := rfl
theorem Z84 (xs : List X) : (X.tup xs).tr σ ρ = .tup (X.trs σ ρ xs) := rfl
theorem Z7y (f : Nat) (xs : List X) : (X.clo f xs).tr σ ρ = .clo f (X.trs σ ρ xs) := rfl
def trP (off : Nat) : Option Nat → X
  | some r => .ptr r off
  | none => .of .any
def trM : Option Nat → X
  | some r => .mp r
  | none => .of .any
def trO (e z : Nat) (cs : List C) (n : Nat) : Option Tk → X
  | some t => .own t e z cs n
  | none => .of (.sl cs n)
theorem Z83 (r off : Nat) : (X.ptr r off).tr σ ρ = trP off (σ r) := by simp only [X.tr, trP]; cases σ r <;> rfl
theorem Z7z (r : Nat) : (X.mp r).tr σ ρ = trM (σ r) := by simp only [X.tr, trM]; cases σ r <;> rfl
theorem Z82 (t : Tk) (e z : Nat) (cs : List C) (n : Nat) : (X.own t e z cs n).tr σ ρ = trO e z cs n (ρ t) := by simp only [X.tr, trO]; cases ρ t <;> rfl
theorem Z86 : X.trs σ ρ [] = [] := rfl
theorem Z85 (x : X) (xs : List X) : X.trs σ ρ (x :: xs) = x.tr σ ρ :: X.trs σ ρ xs := rfl
theorem Z5a (ty : Nat) (xs : List X) : (Ob.var ty xs).tr σ ρ = .var ty (X.trs σ ρ xs) := rfl
theorem Z59 (es : List (Value × C)) : (Ob.map es).tr σ ρ = .map es := rfl
end
theorem Z7w (off r : Nat) : trP off (some r) = .ptr r off := rfl
theorem Z7t (r : Nat) : trM (some r) = .mp r := rfl
theorem Z7v (e z : Nat) (cs : List C) (n : Nat) (t : Tk) : trO e z cs n (some t) = .own t e z cs n := rfl
theorem Z7u (e z : Nat) (cs : List C) (n : Nat) : trO e z cs n none = .of (.sl cs n) := rfl
theorem Z4r (c k : Nat) : nameX c k [] = [] := rfl
theorem Z4q (c k : Nat) (x : X) (xs : List X) : nameX c k (x :: xs) = x.tr (fun _ => none) (nameTk c k) :: nameX c k xs := rfl
theorem Z4p (c k i : Nat) : nameTk c k (.nm 0 0 i) = some (.nm c k i) := rfl
theorem Z62 {α : Type} [DecidableEq α] (a : α) : pos [] a = none := rfl
theorem Z61 {α : Type} [DecidableEq α] (b : α) (l : List α) (a : α) : pos (b :: l) a = if b = a then some 0 else (pos l a).map (· + 1) := rfl
def rhoC (refs : List Nat) : Tk → Option Tk
  | .cell r off => (pos refs r).map fun r' => .cell r' off
  | .nm .. => none
def rhoP (refs : List Nat) (t : Tk) : Option Nat → Option Tk
  | some i => some (.nm 0 0 i)
  | none => rhoC refs t
theorem Z6v (refs : List Nat) (ts : List Tk) (t : Tk) : rhoIn refs ts t = rhoP refs t (pos ts t) := by
  unfold rhoIn rhoP rhoC
  cases pos ts t <;> rfl
theorem Z6y (refs : List Nat) (t : Tk) (i : Nat) : rhoP refs t (some i) = some (.nm 0 0 i) := rfl
theorem Z6w (refs : List Nat) (r off : Nat) : rhoP refs (.cell r off) none = (pos refs r).map fun r' => .cell r' off := rfl
theorem Z6x (refs : List Nat) (a b c : Nat) : rhoP refs (.nm a b c) none = none := rfl
theorem Z40 (refs : List Nat) (ts : List Tk) (r off : Nat) : keepTk refs ts (.cell r off) = if Tk.cell r off ∈ ts then none else if r ∈ refs then none else some (.cell r off) := rfl
theorem Z41 (refs : List Nat) (ts : List Tk) (a b c : Nat) : keepTk refs ts (.nm a b c) = if Tk.nm a b c ∈ ts then none else some (.nm a b c) := rfl
theorem Z74 (r : Nat) (refs : List Nat) (L : Nat) : sigBack (r :: refs) L 0 = r := rfl
theorem Z72 (L i : Nat) : sigBack [] L i = L + i := rfl
theorem Z73 (r : Nat) (refs : List Nat) (L i : Nat) : sigBack (r :: refs) L (i + 1) = sigBack refs L i := by
  simp only [sigBack, List.getElem?_cons_succ, List.length_cons]
  cases refs[i]? with
  | some r => rfl
  | none => simp only; congr 1; omega
theorem Z6u (refs : List Nat) (L c k i : Nat) : rhoBack refs L c k (.nm 0 0 i) = some (.nm c k i) := rfl
theorem Z6t (refs : List Nat) (L c k r off : Nat) : rhoBack refs L c k (.cell r off) = some (.cell (sigBack refs L r) off) := rfl
theorem Z2v (objs : List Ob) : dropTs [] objs = objs := rfl
theorem Z2u (t : Tk) (ts : List Tk) (objs : List Ob) : dropTs (t :: ts) objs = objs.map (Ob.tr some fun t' => if t' ∈ t :: ts then none else some t') := rfl
def consOb : Option Ob → Option (List Ob) → Option (List Ob)
  | some a, some b => some (a :: b)
  | _, _ => none
theorem Z5x (σ : Nat → Option Nat) (ρ : Tk → Option Tk) (objs : List Ob) : pickObs σ ρ objs [] = some [] := rfl
theorem Z5w (σ : Nat → Option Nat) (ρ : Tk → Option Tk) (objs : List Ob) (r : Nat) (l : List Nat) : pickObs σ ρ objs (r :: l) = consOb ((objs[r]?).map (Ob.tr σ ρ)) (pickObs σ ρ objs l) := by
  simp only [pickObs, consOb]
  cases objs[r]? <;> cases pickObs σ ρ objs l <;> rfl
theorem Z2r (a : Ob) (b : List Ob) : consOb (some a) (some b) = some (a :: b) := rfl
theorem Z71 (σ : Nat → Option Nat) (ρ : Tk → Option Tk) (objs obs : List Ob) : setObs σ ρ objs [] obs = objs := by cases obs <;> rfl
theorem Z70 (σ : Nat → Option Nat) (ρ : Tk → Option Tk) (objs : List Ob) (r : Nat) (l : List Nat) (ob : Ob) (q : List Ob) : setObs σ ρ objs (r :: l) (ob :: q) = setObs σ ρ (objs.set r (ob.tr σ ρ)) l q := rfl
theorem Z6d (objs : List Ob) (n : Nat) (seen : List Nat) : reach objs n [] seen = seen := by cases n <;> rfl
theorem Z6c (objs : List Ob) (n r : Nat) (todo seen : List Nat) : reach objs (n + 1) (r :: todo) seen = if r ∈ seen then reach objs n todo seen else reach objs n (((objs[r]?).map Ob.refs).getD [] ++ todo) (seen ++ [r]) := rfl
theorem Z6k (c : C) : (X.of c).refs = [] := rfl
theorem Z6j : X.nil.refs = [] := rfl
theorem Z6l (t : Tk) (e z : Nat) (cs : List C) (n : Nat) : (X.own t e z cs n).refs = [] := rfl
theorem Z6m (r o : Nat) : (X.ptr r o).refs = [r] := rfl
theorem Z6i (r : Nat) : (X.mp r).refs = [r] := rfl
theorem Z6h (f : Nat) (xs : List X) : (X.clo f xs).refs = X.refsL xs := rfl
theorem Z6g (xs : List X) : (X.agg xs).refs = X.refsL xs := rfl
theorem Z6n (xs : List X) : (X.tup xs).refs = X.refsL xs := rfl
theorem Z6f : X.refsL [] = [] := rfl
theorem Z6e (x : X) (xs : List X) : X.refsL (x :: xs) = x.refs ++ X.refsL xs := rfl
theorem Z58 (ty : Nat) (xs : List X) : (Ob.var ty xs).refs = X.refsL xs := rfl
theorem Z57 (es : List (Value × C)) : (Ob.map es).refs = [] := rfl
theorem Z7p (c : C) : (X.of c).toks = [] := rfl
theorem Z7o : X.nil.toks = [] := rfl
theorem Z7q (t : Tk) (e z : Nat) (cs : List C) (n : Nat) : (X.own t e z cs n).toks = [t] := rfl
theorem Z7r (r o : Nat) : (X.ptr r o).toks = [] := rfl
theorem Z7n (r : Nat) : (X.mp r).toks = [] := rfl
theorem Z7m (f : Nat) (xs : List X) : (X.clo f xs).toks = X.toksL xs := rfl
theorem Z7l (xs : List X) : (X.agg xs).toks = X.toksL xs := rfl
theorem Z7s (xs : List X) : (X.tup xs).toks = X.toksL xs := rfl
theorem Z7k : X.toksL [] = [] := rfl
theorem Z7j (x : X) (xs : List X) : X.toksL (x :: xs) = x.toks ++ X.toksL xs := rfl
theorem Z7h (us : List X) : toksB false us = [] := rfl
theorem Z7i (us : List X) : toksB true us = nub (X.toksL us) [] := rfl
theorem Z54 {α : Type} [DecidableEq α] (seen : List α) : nub [] seen = seen := rfl
theorem Z53 {α : Type} [DecidableEq α] (a : α) (l seen : List α) : nub (a :: l) seen = if a ∈ seen then nub l seen else nub l (seen ++ [a]) := rfl
theorem Z5m (Q : S → Prop) (s : S) : optQ Q (some s) ↔ Q s := Iff.rfl
theorem Z11 (s : S) (d : Option Nat) (ty : Nat) (xs : List X) : allocO s d ty (some xs) = some (allocS s d ty xs) := rfl
theorem Z4y : noOwn [] = true := rfl
theorem Z4z (c : C) (xs : List X) : noOwn (.of c :: xs) = noOwn xs := rfl
theorem Z4x (xs : List X) : noOwn (.nil :: xs) = noOwn xs := rfl
theorem Z51 (r o : Nat) (xs : List X) : noOwn (.ptr r o :: xs) = noOwn xs := rfl
theorem Z4w (r : Nat) (xs : List X) : noOwn (.mp r :: xs) = noOwn xs := rfl
theorem Z4v (f : Nat) (l xs : List X) : noOwn (.clo f l :: xs) = noOwn xs := rfl
theorem Z4u (l xs : List X) : noOwn (.agg l :: xs) = noOwn xs := rfl
theorem Z50 (t : Tk) (e z : Nat) (cs : List C) (n : Nat) (xs : List X) : noOwn (.own t e z cs n :: xs) = false := rfl
theorem Z8a (s : S) (objs : List Ob) (j : Nat) : (s.withO objs).fr j = s.fr j := rfl
theorem Z8b (s : S) (objs : List Ob) : (s.withO objs).objs = objs := rfl
theorem Z89 (s : S) (objs : List Ob) : (s.withO objs).clk = s.clk := rfl
theorem Z78 (ρ : Tk → Option Tk) (s : S) (j : Nat) : (s.tr ρ).fr j = (s.fr j).tr some ρ := rfl
theorem Z79 (ρ : Tk → Option Tk) (s : S) : (s.tr ρ).objs = s.objs.map (Ob.tr some ρ) := rfl
theorem Z77 (ρ : Tk → Option Tk) (s : S) : (s.tr ρ).clk = s.clk := rfl
def layB (r off : Nat) (xs : List X) (s : S) : Bool → S
  | true => s
  | false => s.tr (moveTk r off xs.length (cellTks r off xs))
theorem Z12 (s : S) (d : Option Nat) (ty : Nat) (xs : List X) : allocS s d ty xs = (layB s.objs.length 0 xs (s.withO (s.objs ++ [Ob.var ty xs])) (noOwn xs)).put d (.ptr s.objs.length 0) := by
  unfold allocS layS layB S.withO
  cases noOwn xs <;> simp [noOwn]
def storeV (s : S) (d : Option Nat) (n r off : Nat) (xs : List X) : Option Ob → Option S
  | some (.var ty ys) => if xs.length = n ∧ off + xs.length ≤ ys.length then some ((layB r off xs (s.withO (s.objs.set r (Ob.var ty (ys.take off ++ xs ++ ys.drop (off + xs.length))))) (noOwn xs && noOwn ((ys.drop off).take xs.length))).put d (.of .undef)) else none
  | _ => none
theorem Z75 (s : S) (d : Option Nat) (td : TD) (r off : Nat) (xs : List X) : storeO s d (some td) (.ptr r off) (some xs) = storeV s d td.size r off xs (s.objs[r]?) := by
  simp only [storeO, storeS, storeV]
  cases s.objs[r]? with
  | none => rfl
  | some ob =>
    cases ob with
    | map es => rfl
    | var ty ys =>
      simp only
      split
      · simp only [Option.some.injEq]
        unfold layS layB S.withO
        cases noOwn xs <;> cases noOwn ((ys.drop off).take xs.length) <;> rfl
      · rfl
theorem Z76 (s : S) (d : Option Nat) (n r off ty : Nat) (xs ys : List X) (h : xs.length = n ∧ off + xs.length ≤ ys.length) : storeV s d n r off xs (some (.var ty ys)) = some ((layB r off xs (s.withO (s.objs.set r (Ob.var ty (ys.take off ++ xs ++ ys.drop (off + xs.length))))) (noOwn xs && noOwn ((ys.drop off).take xs.length))).put d (.of .undef)) := by
  simp only [storeV, if_pos h]
theorem Z43 (r off : Nat) (xs : List X) (s : S) : layB r off xs s true = s := rfl
theorem Z42 (r off : Nat) (xs : List X) (s : S) : layB r off xs s false = s.tr (moveTk r off xs.length (cellTks r off xs)) := rfl
def moveD (r off n : Nat) (t : Tk) : Option Tk → Option Tk
  | some t' => some t'
  | none => match t with
    | .cell r' o' => if r' = r ∧ off ≤ o' ∧ o' < off + n then none else some t
    | .nm .. => some t
theorem Z4o (r off n : Nat) (mv : List (Tk × Tk)) (t : Tk) : moveTk r off n mv t = moveD r off n t (assoc mv t) := by
  unfold moveTk moveD
  cases assoc mv t <;> rfl
theorem Z4n (r off n : Nat) (t t' : Tk) : moveD r off n t (some t') = some t' := rfl
theorem Z4l (r off n r' o' : Nat) : moveD r off n (.cell r' o') none = if r' = r ∧ off ≤ o' ∧ o' < off + n then none else some (.cell r' o') := rfl
theorem Z4m (r off n a b c : Nat) : moveD r off n (.nm a b c) none = some (.nm a b c) := rfl
theorem Z19 (t : Tk) : assoc [] t = none := rfl
theorem Z18 (a b : Tk) (l : List (Tk × Tk)) (t : Tk) : assoc ((a, b) :: l) t = if a = t then some b else assoc l t := rfl
theorem Z29 (r off : Nat) : cellTks r off [] = [] := rfl
theorem Z2b (r off : Nat) (t : Tk) (e z : Nat) (cs : List C) (n : Nat) (xs : List X) : cellTks r off (.own t e z cs n :: xs) = (t, .cell r off) :: cellTks r (off + 1) xs := rfl
theorem Z2a (r off : Nat) (c : C) (xs : List X) : cellTks r off (.of c :: xs) = cellTks r (off + 1) xs := rfl
theorem Z28 (r off : Nat) (xs : List X) : cellTks r off (.nil :: xs) = cellTks r (off + 1) xs := rfl
theorem Z2c (r off a b : Nat) (xs : List X) : cellTks r off (.ptr a b :: xs) = cellTks r (off + 1) xs := rfl
theorem Z27 (r off a : Nat) (xs : List X) : cellTks r off (.mp a :: xs) = cellTks r (off + 1) xs := rfl
theorem Z26 (r off a : Nat) (l xs : List X) : cellTks r off (.clo a l :: xs) = cellTks r (off + 1) xs := rfl
theorem Z5t (Q : Option X → S → Prop) (s : S) (t : Nat) (c : C) : panQ Q s (some (.ifc t c)) ↔ Q (some (.of (.ifc t c))) s := Iff.rfl
theorem Z3t (t : Nat) (c : C) : ifcX t true (some c) = out (.of (.ifc t c)) := rfl
def consX (x : Option X) (l : Option (List X)) : Option (List X) := match x, l with
  | some x, some l => some (x :: l)
  | _, _ => none
theorem Z6r (T : TT) (s : S) : resXs T s [] = some [] := rfl
theorem Z6s (T : TT) (s : S) (t : Nat) (r : List ResultVar) : resXs T s (.tmp t :: r) = (resXs T s r).map (s.fr t :: ·) := rfl
theorem Z6q (T : TT) (s : S) (a t : Nat) (r : List ResultVar) : resXs T s (.cell a t :: r) = consX ((loadX T s.objs t (s.fr a)).map (·.1)) (resXs T s r) := by
  simp only [resXs, consX]
  cases loadX T s.objs t (s.fr a) with
  | none => rfl
  | some p => cases resXs T s r <;> rfl
theorem Z2t (x : X) (l : List X) : consX (some x) (some l) = some (x :: l) := rfl
def leaveT (refs : List Nat) (rs : List X) : List Tk := (nub (X.toksL rs) []).filter fun t => match t with
    | .nm .. => true
    | .cell r _ => !decide (r ∈ refs)
def leave2 (refs : List Nat) (ts : List Tk) (pan : Bool) (rs : List X) (objs : List Ob) : Option An := (pickObs (pos refs) (rhoIn refs ts) objs refs).map fun obs => ⟨pan, X.trs (pos refs) (rhoIn refs ts) rs, obs⟩
def leave1 (refs : List Nat) (pan : Bool) (rs : List X) (objs : List Ob) : Option An := leave2 refs (leaveT refs rs) pan rs objs
theorem Z47 (m : Nat) (pan : Bool) (rs : List X) (objs : List Ob) : leave m pan rs objs = leave1 (reach objs 999 (X.refsL rs ++ ((objs.take m).map Ob.refs).flatten) (List.range m)) pan rs objs := rfl
theorem Z44 (refs : List Nat) (pan : Bool) (rs : List X) (objs : List Ob) : leave1 refs pan rs objs = leave2 refs (leaveT refs rs) pan rs objs := rfl
theorem Z45 (refs : List Nat) (ts : List Tk) (pan : Bool) (rs : List X) (objs : List Ob) : leave2 refs ts pan rs objs = (pickObs (pos refs) (rhoIn refs ts) objs refs).map fun obs => ⟨pan, X.trs (pos refs) (rhoIn refs ts) rs, obs⟩ := rfl
def filtT (refs : List Nat) : List Tk → List Tk
  | [] => []
  | .nm a b c :: l => .nm a b c :: filtT refs l
  | .cell r o :: l => if r ∈ refs then filtT refs l else .cell r o :: filtT refs l
theorem Z46 (refs : List Nat) (rs : List X) : leaveT refs rs = filtT refs (nub (X.toksL rs) []) := by
  unfold leaveT
  generalize nub (X.toksL rs) [] = l
  induction l with
  | nil => rfl
  | cons t l ih =>
    cases t with
    | nm a b c => rw [List.filter_cons_of_pos (by rfl), ih]; rfl
    | cell r o =>
      simp only [filtT]
      split
      · rename_i h; rw [List.filter_cons_of_neg (by simp [h]), ih]
      · rename_i h; rw [List.filter_cons_of_pos (by simp [h]), ih]
theorem Z3k (refs : List Nat) : filtT refs [] = [] := rfl
theorem Z3l (refs : List Nat) (a b c : Nat) (l : List Tk) : filtT refs (.nm a b c :: l) = .nm a b c :: filtT refs l := rfl
theorem Z3j (refs : List Nat) (r o : Nat) (l : List Tk) : filtT refs (.cell r o :: l) = if r ∈ refs then filtT refs l else .cell r o :: filtT refs l := rfl
theorem Z3m : ∀ l : List Tk, filtT [] l = l
  | [] => rfl
  | .nm a b c :: l => by simp [filtT, Z3m l]
  | .cell r o :: l => by simp [filtT, Z3m l]
theorem Z1v (i : Nat) : Region.binds .any ⟨i, .data⟩ = true := rfl
theorem Z1u (i : Nat) : Region.binds .any ⟨i, .chain⟩ = true := rfl
theorem Z1w (i : Nat) : Region.binds .any ⟨i, .guard⟩ = true := rfl
theorem Z1x (i : Nat) : Region.binds .any ⟨i, .phase⟩ = true := rfl
theorem Z5k (x : X) : oneX [x] = x := rfl
theorem Z5j : oneX [] = .tup [] := rfl
theorem Z5l (x y : X) (r : List X) : oneX (x :: y :: r) = .tup (x :: y :: r) := rfl
theorem Z3f (xs : List X) (i : Nat) : extractX i (.tup xs) = outO (xs[i]?) := rfl
theorem Z39 (P : Program) (f m : Nat) (an : An) (s : S) : endQ P f m an .normal s ↔ ((resXs (TT.of P) s (resVars P f)).bind fun rs => leave m false rs s.objs) = some an := Iff.rfl
theorem Z3b (P : Program) (f m : Nat) (an : An) (s : S) : endQ P f m an .ret s ↔ ((resXs (TT.of P) s (resVars P f)).bind fun rs => leave m false rs s.objs) = some an := Iff.rfl
theorem Z3a (P : Program) (f m : Nat) (an : An) (x : X) (s : S) : endQ P f m an (.pan x) s ↔ leave m true [x] s.objs = some an := Iff.rfl
theorem Z52 (p : Prop) [Decidable p] : ((!decide p) = true) = ¬ p := by simp

theorem indexAddr_sl {T : TT} {t e : Nat} {d : TD} (h : elemOf T t = some (e, d)) (cs : List C) (n : Nat) (i : Int) (x : X) (hx : asSl x = some (cs, n)) : indexAddrX T t x (.of (.lit (.int .i64 i))) = if 0 ≤ i ∧ i < (n : Int) ∧ cs.length = n * d.size ∧ 0 < d.size then out (.of (.ref (cs.drop (i.toNat * d.size)))) else none := by
  unfold elemOf at h
  split at h
  · rename_i e' _ _ _ _ _ hT
    simp only [Option.map_eq_some_iff, Prod.mk.injEq] at h
    obtain ⟨d', hd, rfl, rfl⟩ := h
    simp only [indexAddrX, litInt, hT, hd, hx]
  · cases h
theorem wrap64_ok (n : Int) (h1 : -9223372036854775808 ≤ n) (h2 : n ≤ 9223372036854775807) : IntKind.i64.wrap n = n := IntWalk.i64_in n ⟨h1, h2⟩
def loadV (T : TT) (t off : Nat) : Option Ob → Option X
  | some (.var _ xs) => pieceX T t (xs.drop off)
  | _ => none
theorem Z4h (T : TT) (objs : List Ob) (t r off : Nat) : loadX T objs t (.ptr r off) = outO (loadV T t off (objs[r]?)) := by
  simp only [loadX, loadV]
  cases objs[r]? with
  | none => rfl
  | some ob => cases ob <;> rfl
theorem Z4g (T : TT) (t off ty : Nat) (xs : List X) : loadV T t off (some (.var ty xs)) = pieceX T t (xs.drop off) := rfl
theorem Z5s (x : X) : outO (some x) = out x := rfl
theorem Z4i (T : TT) (objs : List Ob) (t : Nat) (cs : List C) : loadX T objs t (.of (.ref cs)) = outO ((pieceC T t cs).map .of) := rfl

theorem Z35 (t : Tk) (c : C) : (X.of c).drop t = .of c := rfl
theorem Z34 (t : Tk) : X.nil.drop t = .nil := rfl
theorem Z37 (t : Tk) (r o : Nat) : (X.ptr r o).drop t = .ptr r o := rfl
theorem Z33 (t : Tk) (r : Nat) : (X.mp r).drop t = .mp r := rfl
theorem Z36 (t t' : Tk) (e z : Nat) (cs : List C) (n : Nat) : (X.own t' e z cs n).drop t = if t' = t then .of (.sl cs n) else .own t' e z cs n := rfl
theorem Z31 (t : Tk) (xs : List X) : (X.agg xs).drop t = .agg (xs.map (X.drop t)) := by simp [X.drop, drops_eq]
theorem Z38 (t : Tk) (xs : List X) : (X.tup xs).drop t = .tup (xs.map (X.drop t)) := by simp [X.drop, drops_eq]
theorem Z32 (t : Tk) (f : Nat) (xs : List X) : (X.clo f xs).drop t = .clo f (xs.map (X.drop t)) := by simp [X.drop, drops_eq]
theorem Z30 (t : Tk) (ty : Nat) (xs : List X) : (Ob.var ty xs).drop t = .var ty (xs.map (X.drop t)) := by simp [Ob.drop, drops_eq]
theorem Z2z (t : Tk) (es : List (Value × C)) : (Ob.map es).drop t = .map es := rfl
/-- An old right. -/
def Old (clk : Nat) (t : Tk) : Prop := t.older clk fun _ => False
theorem Z5h (clk c ix i : Nat) : Old clk (.nm c ix i) ↔ c < clk := by simp [Old, Tk.older]
theorem Z5i {clk : Nat} {t : Tk} (h : Old clk t) (af : List Edge) : okTk clk af (some t) = true := by
  cases t with
  | nm c ix i => rw [Z5h] at h; simp [okTk, h]
  | cell r o => rfl
theorem Z6z (clk ix i : Nat) (af : List Edge) : okTk clk af (some (.nm clk ix i)) = af.any fun e => Region.binds .any e && e.on == ix := by simp [okTk]
theorem old_new {clk c : Nat} {t : Tk} (h : Old clk t) (hc : clk ≤ c) (ix i : Nat) : (Tk.nm c ix i = t) = False := by
  simp only [eq_iff_iff, iff_false]
  rintro rfl
  rw [Z5h] at h
  omega
theorem old_new' {clk c : Nat} {t : Tk} (h : Old clk t) (hc : clk ≤ c) (ix i : Nat) : (t = Tk.nm c ix i) = False := by
  have := old_new h hc ix i
  simp only [eq_iff_iff, iff_false] at this ⊢
  exact fun e => this e.symm
theorem old_add {clk : Nat} {t : Tk} (h : Old clk t) (n : Nat) : Old (clk + n) t := by
  cases t with
  | nm c ix i => rw [Z5h] at h ⊢; omega
  | cell r o => trivial
theorem Z2o (s : S) (n : Nat) : s.clk + n + 1 = s.clk + (n + 1) := rfl
theorem Z4j (n k : Nat) : n < n + (k + 1) := by omega
theorem bs_0 {T : TT} {t e : Nat} {d : TD} (h : elemOf T t = some (e, d)) (hz : 0 < d.size) (hl : d.zero.length = d.size) (tk : Tk) : buildSliceX tk 0 (elemOf T t) (some []) = out (.own tk e d.size [] 0) := by
  simp only [buildSliceX, h, Nat.zero_mul, Nat.zero_le, hz, hl, and_self, if_true, List.replicate_zero, List.flatten_nil, fillX, X.rds]
theorem Z5v (f : Operand → X) : partsX f [] = some [] := rfl
def consP (i : Nat) (l : Option (List X)) (q : Option (List (Nat × List X))) : Option (List (Nat × List X)) := match l, q with
  | some l, some q => some ((i, l) :: q)
  | _, _ => none
theorem Z5u (f : Operand → X) (i : Nat) (x : Operand) (r : List (Nat × Operand)) : partsX f ((i, x) :: r) = consP i (cellsX (f x)) (partsX f r) := by
  simp only [partsX, consP]
  cases cellsX (f x) <;> cases partsX f r <;> rfl
theorem Z2s (i : Nat) (l : List X) (q : List (Nat × List X)) : consP i (some l) (some q) = some ((i, l) :: q) := rfl
/-- A slice of one cell. -/
theorem bs_1 {T : TT} {t e : Nat} {d : TD} (h : elemOf T t = some (e, d)) (hz : d.size = 1) (hl : d.zero.length = 1) (tk : Tk) (x : X) : buildSliceX tk 1 (elemOf T t) (some [(0, [x])]) = outO (x.rd.map fun c => .own tk e 1 [c] 1) := by
  have h0 : zeroX d = [ofVal (d.zero.headD (.bool false))] := by
    unfold zeroX
    match hd : d.zero, hl with
    | [v], _ => rfl
  simp only [buildSliceX, h, hz, hl, h0, fillX, Nat.mul_one, Nat.zero_mul, Nat.zero_add, List.replicate_one, List.flatten_singleton, List.length_singleton]
  simp only [show (1 : Nat) ≤ 16777216 by omega, show (0 : Nat) < 1 by omega, and_self, if_true, Nat.le_refl, List.take_zero, List.nil_append, List.drop_one, List.tail_cons, List.append_nil, fillX, X.rds]
  cases x.rd <;> rfl

/-- append. -/
theorem ap_nil {T : TT} {t e : Nat} {d : TD} (h : elemOf T t = some (e, d)) (hz : 0 < d.size) (hb : d.bytes ≤ 32768) (tk : Tk) (y : X) (cs : List C) (m : Nat) (hy : asSl y = some (cs, m)) (hc : cs.length = m * d.size) (hm : m ≤ LIM) :
    appendX T tk t t .nil y = out (.own tk e d.size cs m) := by
  simp only [appendX, h, hy, if_true, hc, hz, and_self, hm, hb, out]
theorem ap_own {T : TT} {t e : Nat} {d : TD} (h : elemOf T t = some (e, d)) (hz : 0 < d.size) (hb : d.bytes ≤ 32768) (tk tk' : Tk) (cs0 : List C) (n : Nat) (y : X) (cs : List C) (m : Nat) (hy : asSl y = some (cs, m)) (hc : cs.length = m * d.size) (hm : n + m ≤ LIM) :
    appendX T tk t t (.own tk' e d.size cs0 n) y = some (.own tk e d.size (cs0 ++ cs) (n + m), some tk') := by
  simp only [appendX, h, hy, if_true, hc, hz, and_self, hm, hb]

theorem Z13 {α : Type} {A : List α} {n : Nat} (h : A.length = n) (x : α) : (A ++ [x])[n]? = some x := by subst h; simp
theorem Z14 {α : Type} {A : List α} {n : Nat} (h : A.length = n) (x y : α) : (A ++ [x]).set n y = A ++ [y] := by subst h; simp
theorem Z4k (f : Ob → Ob) (J : List Ob) (x : Ob) : List.map f (J ++ [x]) = List.map f J ++ [f x] := by simp
/-- One of an array. -/
theorem index_agg {T : TT} {t n e : Nat} {d : TD} {td : TD} (hT : T t = some td) (hu : td.und = .array n e) (hE : T e = some d) (xs : List X) (i : Int) : indexX T t (.agg xs) (.of (.lit (.int .i64 i))) = if 0 ≤ i ∧ i < (n : Int) then outO (pieceX T e (xs.drop (i.toNat * d.size))) else none := by
  obtain ⟨und, s, b, a, z, f⟩ := td
  simp only at hu
  subst hu
  simp only [indexX, litInt, hT, hE]

theorem Z2i (v : Value) : cellsX (.of (.lit v)) = some [.of (.lit v)] := rfl
theorem Z2n (cs : List C) (n : Nat) : cellsX (.of (.sl cs n)) = some [.of (.sl cs n)] := rfl
theorem Z2g (f : Nat) (cs : List C) : cellsX (.of (.fn f cs)) = some [.of (.fn f cs)] := rfl
theorem Z2h (t : Nat) (c : C) : cellsX (.of (.ifc t c)) = some [.of (.ifc t c)] := rfl
theorem Z2k : cellsX .nil = some [.nil] := rfl
theorem Z2l (t : Tk) (e z : Nat) (cs : List C) (n : Nat) : cellsX (.own t e z cs n) = some [.own t e z cs n] := rfl
theorem Z2m (r o : Nat) : cellsX (.ptr r o) = some [.ptr r o] := rfl
theorem Z2j (r : Nat) : cellsX (.mp r) = some [.mp r] := rfl
theorem Z2f (f : Nat) (xs : List X) : cellsX (.clo f xs) = some [.clo f xs] := rfl
theorem Z2d (xs : List X) : cellsX (.agg xs) = some xs := rfl
theorem Z2e (cs : List C) : cellsX (.of (.agg cs)) = some (cs.map .of) := rfl
def fillP (place : Nat → Option (Nat × Nat)) (cells xs : List X) (r : List (Nat × List X)) : Option (Nat × Nat) → Option (List X)
  | some (off, size) => if xs.length = size ∧ off + size ≤ cells.length then fillX place (cells.take off ++ xs ++ cells.drop (off + size)) r else none
  | none => none
theorem Z3i (place : Nat → Option (Nat × Nat)) (cells : List X) : fillX place cells [] = some cells := rfl
theorem Z3h (place : Nat → Option (Nat × Nat)) (cells xs : List X) (i : Nat) (r : List (Nat × List X)) : fillX place cells ((i, xs) :: r) = fillP place cells xs r (place i) := by
  simp only [fillX, fillP]
  cases place i <;> rfl
theorem Z3g (place : Nat → Option (Nat × Nat)) (cells xs : List X) (r : List (Nat × List X)) (off size : Nat) (h : xs.length = size ∧ off + size ≤ cells.length) : fillP place cells xs r (some (off, size)) = fillX place (cells.take off ++ xs ++ cells.drop (off + size)) r := if_pos h
end Go.Pe

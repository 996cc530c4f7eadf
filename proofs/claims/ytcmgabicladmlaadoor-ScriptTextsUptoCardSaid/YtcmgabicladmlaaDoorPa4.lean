/-
  An abstract machine for Go code over plain data: what the evaluator answers, the program returns. Conditions: none.
-/
import Derived.Test.YtcmgabicladmlaaDoorPa3
namespace Go.Pe
open Go.RowKit

theorem drops_eq (t : Tk) : ∀ xs : List X, X.drops t xs = xs.map (X.drop t)
  | [] => rfl
  | x :: r => by simp [X.drops, drops_eq t r]

theorem rd_drop (t : Tk) : ∀ x : X, (x.drop t).rd = x.rd :=
  X.rec (motive_1 := fun x => (x.drop t).rd = x.rd) (motive_2 := fun xs => X.rds (X.drops t xs) = X.rds xs)
    (fun _ => rfl) rfl (fun t' e z cs n => by simp only [X.drop]; split <;> simp [X.rd]) (fun _ _ => rfl) (fun _ => rfl) (fun _ _ _ => rfl)
    (fun xs ih => by simp [X.drop, X.rd, ih]) (fun _ _ => rfl) rfl (fun x xs ih1 ih2 => by simp [X.drops, X.rds, ih1, ih2])

theorem rds_drop (t : Tk) : ∀ xs : List X, X.rds (xs.map (X.drop t)) = X.rds xs
  | [] => rfl
  | x :: r => by simp [X.rds, rd_drop, rds_drop t r]

theorem drop_drop (t u : Tk) : ∀ x : X, (x.drop t).drop u = (x.drop u).drop t :=
  X.rec (motive_1 := fun x => (x.drop t).drop u = (x.drop u).drop t) (motive_2 := fun xs => X.drops u (X.drops t xs) = X.drops t (X.drops u xs))
    (fun _ => rfl) rfl
    (fun t' e z cs n => by
      by_cases h1 : t' = t
      · by_cases h2 : t' = u
        · subst h1; subst h2; simp [X.drop]
        · subst h1; simp [X.drop, h2]
      · by_cases h2 : t' = u
        · subst h2; simp [X.drop, h1]
        · simp [X.drop, h1, h2])
    (fun _ _ => rfl) (fun _ => rfl) (fun f xs ih => by simp [X.drop, ih])
    (fun xs ih => by simp [X.drop, ih]) (fun xs ih => by simp [X.drop, ih]) rfl (fun x xs ih1 ih2 => by simp [X.drops, ih1, ih2])

theorem own_drop (t t' : Tk) (e z : Nat) (cs : List C) (n : Nat) : (X.own t' e z cs n).drop t = .of (.sl cs n) ∨ (X.own t' e z cs n).drop t = .own t' e z cs n := by
  simp only [X.drop]
  split
  · exact .inl rfl
  · exact .inr rfl
theorem of_drop (t : Tk) (o : Option C) : (o.map X.of).map (X.drop t) = o.map X.of := by cases o <;> rfl

theorem litInt_drop (t : Tk) (x : X) : litInt (x.drop t) = litInt x := by
  cases x with
  | own t' e z cs n => rcases own_drop t t' e z cs n with h | h <;> rw [h] <;> rfl
  | _ => rfl
theorem litBool_drop (t : Tk) (x : X) : litBool (x.drop t) = litBool x := by
  cases x with
  | own t' e z cs n => rcases own_drop t t' e z cs n with h | h <;> rw [h] <;> rfl
  | _ => rfl
theorem asSl_drop (t : Tk) (x : X) : asSl (x.drop t) = asSl x := by
  cases x with
  | own t' e z cs n => rcases own_drop t t' e z cs n with h | h <;> rw [h] <;> rfl
  | _ => rfl
theorem cellsX_drop (t : Tk) (x : X) : cellsX (x.drop t) = (cellsX x).map (List.map (X.drop t)) := by
  cases x with
  | own t' e z cs n => simp only [X.drop]; split <;> simp [cellsX, X.drop, *]
  | of c => cases c <;> simp [X.drop, cellsX]
  | _ => simp [X.drop, cellsX, drops_eq]
theorem ofVal_drop (t : Tk) (v : Value) : (ofVal v).drop t = ofVal v := by
  unfold ofVal
  split <;> rfl

theorem pieceX_drop (T : TT) (t : Tk) (ty : Nat) (xs : List X) : pieceX T ty (xs.map (X.drop t)) = (pieceX T ty xs).map (X.drop t) := by
  unfold pieceX
  split
  · rfl
  · rename_i d _
    simp only [List.length_map]
    split
    · split
      · simp [X.drop, drops_eq, List.map_take]
      · cases xs <;> simp
    · rfl

theorem ev_drop (t : Tk) (s : S) (x : Operand) : (s.drop (some t)).ev x = (s.ev x).drop t := by
  cases x <;> simp [S.ev, S.drop, X.drop, ofVal_drop]

theorem rdAll_drop (t : Tk) (s : S) : ∀ l, rdAll (s.drop (some t)).ev l = rdAll s.ev l
  | [] => rfl
  | x :: r => by simp [rdAll, ev_drop, rd_drop, rdAll_drop t s r]

theorem partsX_drop (t : Tk) (s : S) : ∀ l, partsX (s.drop (some t)).ev l = (partsX s.ev l).map (List.map fun p => (p.1, p.2.map (X.drop t)))
  | [] => rfl
  | (i, x) :: r => by
    simp only [partsX, ev_drop, cellsX_drop, partsX_drop t s r]
    cases cellsX (s.ev x) <;> cases partsX s.ev r <;> simp

theorem fillX_drop (place : Nat → Option (Nat × Nat)) (t : Tk) : ∀ (qs : List (Nat × List X)) (cells : List X), fillX place (cells.map (X.drop t)) (qs.map fun p => (p.1, p.2.map (X.drop t))) = (fillX place cells qs).map (List.map (X.drop t))
  | [], cells => rfl
  | (i, xs) :: r, cells => by
    simp only [List.map_cons, fillX]
    cases place i with
    | none => rfl
    | some p =>
      obtain ⟨off, size⟩ := p
      simp only [List.length_map]
      split
      · rw [← fillX_drop place t r]
        simp [List.map_take, List.map_drop]
      · rfl

/-- What an operation yields when a right has been given up before. -/
def mapD (t : Tk) : Out → Out
  | none => none
  | some (x, u) => if u = some t then none else some (x.drop t, u)

theorem mapD_none (t : Tk) : mapD t none = none := rfl
theorem mapD_out (t : Tk) (x : X) : mapD t (out x) = out (x.drop t) := by simp [mapD, out]
theorem mapD_outO (t : Tk) (x : Option X) : mapD t (outO x) = outO (x.map (X.drop t)) := by cases x <;> simp [mapD, outO]
theorem mapD_ite (t : Tk) (c : Prop) [Decidable c] (a b : Out) : mapD t (if c then a else b) = if c then mapD t a else mapD t b := by split <;> rfl

theorem zeroX_drop (t : Tk) (d : TD) : (zeroX d).map (X.drop t) = zeroX d := by
  simp [zeroX, ofVal_drop]

theorem objs_drop (t : Tk) (s : S) (r : Nat) : (s.drop (some t)).objs[r]? = (s.objs[r]?).map (Ob.drop t) := by simp [S.drop]

theorem loadX_drop (T : TT) (t : Tk) (s : S) (ty : Nat) (x : X) : loadX T (s.drop (some t)).objs ty (x.drop t) = mapD t (loadX T s.objs ty x) := by
  cases x with
  | ptr r off =>
    simp only [X.drop, loadX, objs_drop]
    cases s.objs[r]? with
    | none => rfl
    | some ob =>
      cases ob with
      | var ty xs => simp only [Option.map_some, Ob.drop, drops_eq, ← List.map_drop, pieceX_drop, mapD_outO]
      | map es => rfl
  | of c =>
    cases c <;> simp only [X.drop, loadX, mapD_none, mapD_outO, of_drop]
  | own t' e z cs n => rcases own_drop t t' e z cs n with h | h <;> rw [h] <;> rfl
  | _ => rfl

theorem fieldAddrX_drop (T : TT) (t : Tk) (ty f : Nat) (x : X) : fieldAddrX T ty f (x.drop t) = mapD t (fieldAddrX T ty f x) := by
  unfold fieldAddrX
  cases fieldOff T ty f with
  | none => rfl
  | some p =>
    obtain ⟨o, z⟩ := p
    simp only [mapD_ite, mapD_none]
    split
    · cases x with
      | of c => cases c <;> simp [X.drop, mapD, out]
      | own t' e z cs n => rcases own_drop t t' e z cs n with h | h <;> rw [h] <;> rfl
      | _ => simp [X.drop, mapD, out]
    · rfl

theorem fieldX_drop (T : TT) (t : Tk) (ty f : Nat) (x : X) : fieldX T ty f (x.drop t) = mapD t (fieldX T ty f x) := by
  unfold fieldX
  split
  · split
    · cases x with
      | of c =>
        cases c <;> simp only [X.drop, mapD_none, mapD_outO, of_drop]
      | own t' e z cs n => rcases own_drop t t' e z cs n with h | h <;> rw [h] <;> rfl
      | agg xs => simp only [X.drop, drops_eq, ← List.map_drop, pieceX_drop, mapD_outO]
      | _ => rfl
    · rfl
  · rfl

theorem indexAddrX_drop (T : TT) (t : Tk) (ty : Nat) (x i : X) : indexAddrX T ty (x.drop t) (i.drop t) = mapD t (indexAddrX T ty x i) := by
  unfold indexAddrX
  rw [litInt_drop]
  split
  · rfl
  · split
    · rw [asSl_drop]
      split
      · simp only [mapD_ite, mapD_none, mapD_out, X.drop]
      · rfl
    · split
      · simp only [mapD_ite, mapD_none]
        split
        · cases x with
          | of c => cases c <;> simp [X.drop, mapD, out]
          | own t' e z cs n => rcases own_drop t t' e z cs n with h | h <;> rw [h] <;> rfl
          | _ => simp [X.drop, mapD, out]
        · rfl
      · rfl
    · rfl

theorem indexX_drop (T : TT) (t : Tk) (ty : Nat) (x i : X) : indexX T ty (x.drop t) (i.drop t) = mapD t (indexX T ty x i) := by
  unfold indexX
  rw [litInt_drop]
  split
  · rfl
  · cases x with
    | of c =>
      cases c with
      | lit v =>
        cases v with
        | string st =>
          simp only [X.drop]
          split
          · simp [mapD, out, X.drop]
          · rfl
        | _ => rfl
      | agg cs =>
        simp only [X.drop]
        split
        · split
          · rename_i n e _ _ _ _ _ _ _ d _
            simp only [mapD_ite, mapD_none, mapD_outO, of_drop]
          · rfl
        · rfl
      | _ => rfl
    | own t' e z cs n => rcases own_drop t t' e z cs n with h | h <;> rw [h] <;> rfl
    | agg xs =>
      simp only [X.drop, drops_eq]
      split
      · split
        · simp only [mapD_ite, mapD_none, mapD_outO, ← List.map_drop, pieceX_drop]
        · rfl
      · rfl
    | _ => rfl

theorem bndX_drop (t : Tk) (d : Int) (x : Option X) : bndX d (x.map (X.drop t)) = bndX d x := by
  cases x <;> simp [bndX, litInt_drop]

theorem sliceX_drop (T : TT) (t : Tk) (ty : Nat) (x : X) (lo hi : Option X) : sliceX T ty (x.drop t) (lo.map (X.drop t)) (hi.map (X.drop t)) = mapD t (sliceX T ty x lo hi) := by
  have slice : ∀ y : X, (∀ s, y ≠ .of (.lit (.string s))) → sliceX T ty y lo hi = match elemOf T ty, asSl y with
    | some (_, d), some (cs, n) =>
      match bndX 0 lo, bndX (n : Int) hi with
      | some l, some h => if 0 ≤ l ∧ l ≤ h ∧ h ≤ (n : Int) ∧ cs.length = n * d.size then out (.of (.sl ((cs.drop (l.toNat * d.size)).take ((h.toNat - l.toNat) * d.size)) (h.toNat - l.toNat))) else none
      | _, _ => none
    | _, _ => none := by
    intro y hy
    unfold sliceX
    split
    · rename_i st; exact (hy st rfl).elim
    · rfl
  have slice' : ∀ y : X, (∀ s, y ≠ .of (.lit (.string s))) → sliceX T ty y (lo.map (X.drop t)) (hi.map (X.drop t)) = match elemOf T ty, asSl y with
    | some (_, d), some (cs, n) =>
      match bndX 0 lo, bndX (n : Int) hi with
      | some l, some h => if 0 ≤ l ∧ l ≤ h ∧ h ≤ (n : Int) ∧ cs.length = n * d.size then out (.of (.sl ((cs.drop (l.toNat * d.size)).take ((h.toNat - l.toNat) * d.size)) (h.toNat - l.toNat))) else none
      | _, _ => none
    | _, _ => none := by
    intro y hy
    unfold sliceX
    split
    · rename_i st; exact (hy st rfl).elim
    · simp only [bndX_drop]
      rfl
  have fin : (match elemOf T ty, asSl x with
    | some (_, d), some (cs, n) =>
      match bndX 0 lo, bndX (n : Int) hi with
      | some l, some h => if 0 ≤ l ∧ l ≤ h ∧ h ≤ (n : Int) ∧ cs.length = n * d.size then out (.of (.sl ((cs.drop (l.toNat * d.size)).take ((h.toNat - l.toNat) * d.size)) (h.toNat - l.toNat))) else none
      | _, _ => none
    | _, _ => none) = mapD t (match elemOf T ty, asSl x with
    | some (_, d), some (cs, n) =>
      match bndX 0 lo, bndX (n : Int) hi with
      | some l, some h => if 0 ≤ l ∧ l ≤ h ∧ h ≤ (n : Int) ∧ cs.length = n * d.size then out (.of (.sl ((cs.drop (l.toNat * d.size)).take ((h.toNat - l.toNat) * d.size)) (h.toNat - l.toNat))) else none
      | _, _ => none
    | _, _ => none) := by
    split
    · split
      · simp only [mapD_ite, mapD_none, mapD_out, X.drop]
      · rfl
    · rfl
  by_cases hstr : ∃ st, x = .of (.lit (.string st))
  · obtain ⟨st, rfl⟩ := hstr
    simp only [X.drop, sliceX, bndX_drop]
    split
    · split
      · simp only [mapD_ite, mapD_none, mapD_out, X.drop]
      · rfl
    · rfl
  · have h1 : ∀ s, x ≠ .of (.lit (.string s)) := fun s e => hstr ⟨s, e⟩
    have h2 : ∀ s, x.drop t ≠ .of (.lit (.string s)) := fun s e => by
      cases x with
      | own t' e' z cs n => simp only [X.drop] at e; split at e <;> cases e
      | of c => exact h1 s e
      | _ => simp [X.drop] at e
    rw [slice' _ h2, slice _ h1, asSl_drop]
    exact fin

theorem lenX_drop (t : Tk) (u : Option TypeDesc) (x : X) : lenX u (x.drop t) = mapD t (lenX u x) := by
  cases x with
  | of c =>
    cases c with
    | lit v => cases v <;> simp only [X.drop, lenX, asSl, mapD_none, mapD_ite, mapD_out]
    | _ => simp only [X.drop, lenX, asSl, mapD_none, mapD_ite, mapD_out]
  | own t' e z cs n => simp only [X.drop]; split <;> simp only [lenX, asSl, mapD_ite, mapD_none, mapD_out, X.drop]
  | _ => simp only [X.drop, lenX, asSl, mapD_none, mapD_ite, mapD_out]

theorem convB_drop (T : TT) (t : Tk) (d : Option TD) (x : X) : convB T d (x.drop t) = mapD t (convB T d x) := by
  unfold convB
  rw [asSl_drop]
  split
  · split
    · rename_i cs _ _ _
      cases unbytes cs <;> simp [outO, mapD, X.drop]
    · rfl
  · rfl
def convN (T : TT) (a b : Nat) (y : X) : Out := match (T b).map (·.und) with
  | some TypeDesc.string => convB T (T a) y
  | _ => none
theorem convN_drop (T : TT) (t : Tk) (a b : Nat) (x : X) : convN T a b (x.drop t) = mapD t (convN T a b x) := by
  unfold convN
  split
  · exact convB_drop T t (T a) x
  · rfl
theorem convN_of (T : TT) (a b : Nat) (y : X) (hy : ∀ c, y ≠ .of (.lit c)) : convertX T a b y = convN T a b y := by
  unfold convertX convN
  generalize (T b).map (·.und) = u
  generalize T a = d
  split
  · exact absurd rfl (hy _)
  · exact absurd rfl (hy _)
  · rfl
  · split
    · simp_all
    · rfl
theorem convertX_drop (T : TT) (t : Tk) (a b : Nat) (x : X) : convertX T a b (x.drop t) = mapD t (convertX T a b x) := by
  have hN := convN_drop T t a b x
  cases x with
  | of c =>
    have hB := convB_drop T t (T a) (.of c)
    simp only [X.drop] at hB ⊢
    unfold convertX
    split
    · simp [mapD, out, X.drop]
    · simp [mapD, out, X.drop]
    · exact hB
    · rfl
  | own t' e z cs n =>
    have e1 := convN_of T a b (.own t' e z cs n) (fun c h => by cases h)
    have e2 := convN_of T a b ((X.own t' e z cs n).drop t) (fun c h => by rcases own_drop t t' e z cs n with h' | h' <;> rw [h'] at h <;> cases h)
    rw [e1, e2]
    exact hN
  | nil => rw [convN_of T a b _ (fun c h => by cases h), convN_of T a b _ (fun c h => by cases h)]; exact hN
  | ptr r o => rw [convN_of T a b _ (fun c h => by cases h), convN_of T a b _ (fun c h => by cases h)]; exact hN
  | mp r => rw [convN_of T a b _ (fun c h => by cases h), convN_of T a b _ (fun c h => by cases h)]; exact hN
  | clo f l => rw [convN_of T a b _ (fun c h => by cases h), convN_of T a b _ (fun c h => by cases h)]; exact hN
  | agg l => rw [convN_of T a b _ (fun c h => by cases h), convN_of T a b _ (fun c h => by cases h)]; exact hN
  | tup l => rw [convN_of T a b _ (fun c h => by cases h), convN_of T a b _ (fun c h => by cases h)]; exact hN

theorem litOf_drop (t : Tk) (x : X) : litOf (x.drop t) = litOf x := by
  cases x with
  | own t' e z cs n => rcases own_drop t t' e z cs n with h | h <;> rw [h] <;> rfl
  | _ => rfl
theorem mapOf_drop (t : Tk) (s : S) (x : X) : mapOf (s.drop (some t)).objs (x.drop t) = mapOf s.objs x := by
  cases x with
  | own t' e z cs n => rcases own_drop t t' e z cs n with h | h <;> rw [h] <;> rfl
  | mp r =>
    simp only [X.drop, mapOf, objs_drop]
    cases s.objs[r]? with
    | none => rfl
    | some ob => cases ob <;> rfl
  | of c =>
    cases c with
    | lit v => cases v with
      | map m => cases m <;> rfl
      | _ => rfl
    | _ => rfl
  | _ => rfl
theorem zero1_drop (T : TT) (t : Tk) (et : Nat) : (zero1 T et).map (X.drop t) = zero1 T et := by
  unfold zero1
  split
  · rw [← pieceX_drop, zeroX_drop]
  · rfl
theorem lookupX_drop (T : TT) (t : Tk) (s : S) (ty : Nat) (x kx : X) (ok : Bool) : lookupX T (s.drop (some t)).objs ty (x.drop t) (kx.drop t) ok = mapD t (lookupX T s.objs ty x kx ok) := by
  unfold lookupX
  rw [litOf_drop, mapOf_drop]
  split
  · rename_i kind et kv es _ _ _
    split
    · rename_i i _
      rw [mapD_outO]
      cases es[i]? with
      | none => rfl
      | some p => cases ok <;> rfl
    · rw [mapD_outO]
      congr 1
      have h := zero1_drop T t et
      cases hz : zero1 T et with
      | none => rfl
      | some z =>
        rw [hz] at h
        simp only [Option.map_some, Option.some.injEq] at h
        cases ok with
        | true => simp [X.drop, X.drops, h]
        | false => simp [h]
    · rfl
  · rfl

theorem appSrc_drop (T : TT) (t : Tk) (st xt e : Nat) (x : X) : appSrc T st xt e (x.drop t) = appSrc T st xt e x := by
  unfold appSrc
  rw [asSl_drop]
  split
  · rfl
  · cases x with
    | own t' e z cs n => rcases own_drop t t' e z cs n with h | h <;> rw [h]
    | _ => rfl
theorem appendX_drop (T : TT) (t tk : Tk) (ht : t ≠ tk) (st xt : Nat) (x y : X) : appendX T tk st xt (x.drop t) (y.drop t) = mapD t (appendX T tk st xt x y) := by
  unfold appendX
  split
  · rw [appSrc_drop]
    split
    · split
      · cases x with
        | own t' e z cs n =>
          simp only [X.drop]
          by_cases he : t' = t
          · subst he
            simp only [if_true]
            split
            · simp [mapD]
            · rfl
          · simp only [he, if_false, mapD_ite, mapD_none]
            split
            · simp [mapD, he, X.drop, Ne.symm ht]
            · rfl
        | nil =>
          simp only [X.drop, mapD_ite, mapD_none]
          split
          · simp [mapD, X.drop, Ne.symm ht]
          · rfl
        | _ => simp [X.drop, mapD]
      · rfl
    · rfl
  · rfl

theorem nameX_drop1 (t : Tk) (clk ix : Nat) (ht : ∀ i, t ≠ .nm clk ix i) : ∀ x : X, (x.tr (fun _ => none) (nameTk clk ix)).drop t = x.tr (fun _ => none) (nameTk clk ix) :=
  X.rec (motive_1 := fun x => (x.tr (fun _ => none) (nameTk clk ix)).drop t = x.tr (fun _ => none) (nameTk clk ix)) (motive_2 := fun xs => X.drops t (X.trs (fun _ => none) (nameTk clk ix) xs) = X.trs (fun _ => none) (nameTk clk ix) xs)
    (fun _ => rfl) rfl
    (fun t' e z cs n => by
      simp only [X.tr]
      split
      · rename_i t2 h2
        have : t2 ≠ t := by
          unfold nameTk at h2
          split at h2
          · cases h2; exact Ne.symm (ht _)
          · cases h2
        simp [X.drop, this]
      · rfl)
    (fun _ _ => rfl) (fun _ => rfl) (fun f xs ih => by simp only [X.tr, X.drop, ih]) (fun xs ih => by simp only [X.tr, X.drop, ih]) (fun xs ih => by simp only [X.tr, X.drop, ih]) rfl
    (fun x xs h1 h2 => by simp only [X.trs, X.drops, h1, h2])
theorem nameX_drop (t : Tk) (clk ix : Nat) (ht : ∀ i, t ≠ .nm clk ix i) (xs : List X) : (nameX clk ix xs).map (X.drop t) = nameX clk ix xs := by
  unfold nameX
  induction xs with
  | nil => rfl
  | cons x xs ih => simp only [X.trs, List.map_cons, nameX_drop1 t clk ix ht, ih]
theorem oneX_drop (t : Tk) (xs : List X) : (oneX xs).drop t = oneX (xs.map (X.drop t)) := by
  match xs with
  | [] => simp [oneX, X.drop, drops_eq]
  | [x] => simp [oneX]
  | x :: y :: r => simp [oneX, X.drop, drops_eq]

theorem callX_drop (P : Program) (E : En) (t : Tk) (clk ix f : Nat) (ht : ∀ i, t ≠ .nm clk ix i) (cs : List C) : callX P E clk ix f cs = mapD t (callX P E clk ix f cs) := by
  unfold callX
  split
  · split
    · rw [mapD_out, oneX_drop, nameX_drop t _ _ ht]
    · rfl
  · rfl

theorem minX_drop (t : Tk) (x y : X) : minX (x.drop t) (y.drop t) = mapD t (minX x y) := by
  unfold minX
  rw [litInt_drop, litInt_drop]
  split
  · rw [mapD_out]; rfl
  · rfl
theorem valCall_drop (P : Program) (T : TT) (E : En) (t : Tk) (s : S) (ix : Nat) (ht : ∀ i, t ≠ .nm s.clk ix i) (cal : Callee) (args : List Operand) (tys : List Nat) :
    valCall P T E (s.drop (some t)) ix cal args tys = mapD t (valCall P T E s ix cal args tys) := by
  unfold valCall
  split
  · rw [ev_drop, lenX_drop]
  · rw [ev_drop, ev_drop]; exact appendX_drop T t _ (ht 0) _ _ _ _
  · rw [ev_drop, ev_drop, minX_drop]
  · rename_i f
    rw [rdAll_drop, ev_drop]
    cases hf : s.ev f with
    | of c =>
      cases c <;> simp only [X.drop, mapD_none]
      split
      · exact callX_drop P E t s.clk ix _ ht _
      · rfl
    | own t' e z cs n => rcases own_drop t t' e z cs n with h | h <;> rw [h] <;> rfl
    | _ => rfl
  · rfl

theorem val_drop (P : Program) (T : TT) (E : En) (t : Tk) (s : S) (ix : Nat) (ht : ∀ i, t ≠ .nm s.clk ix i) (o : Oper) : val P T E (s.drop (some t)) ix o = mapD t (val P T E s ix o) := by
  unfold val
  split
  · rw [ev_drop, mapD_out]
  · rw [ev_drop, mapD_out]
  · rw [ev_drop, litBool_drop, ev_drop, ev_drop]
    split
    · rename_i b _
      cases b <;> simp [mapD_out]
    · rfl
  · rename_i op ty x y yt _
    rw [ev_drop, ev_drop]
    unfold binX
    rw [litOf_drop, litOf_drop, rd_drop, rd_drop]
    split
    · rename_i u v _ _
      cases binLit ((T ty).map (·.und)) op u v <;> rfl
    · unfold binAgg
      split
      · rename_i cs ds _ _
        split
        · cases eqAgg P T ty cs ds <;> rfl
        · cases eqAgg P T ty cs ds <;> rfl
        · rfl
      · rfl
  · rename_i op ty x _
    rw [ev_drop]
    cases s.ev x with
    | of c =>
      cases c <;> simp only [X.drop, mapD_none, mapD_outO]
      rename_i u
      cases unLit op u <;> rfl
    | own t' e z cs n => rcases own_drop t t' e z cs n with h | h <;> rw [h] <;> rfl
    | _ => rfl
  · rw [ev_drop]; exact loadX_drop T t s _ _
  · rw [ev_drop, fieldAddrX_drop]
  · rw [ev_drop, fieldX_drop]
  · rw [ev_drop, ev_drop, indexAddrX_drop]
  · rw [ev_drop, ev_drop, indexX_drop]
  · rename_i ty x lo hi _
    rw [ev_drop, ← sliceX_drop]
    congr 1
    · cases lo <;> simp [ev_drop]
    · cases hi <;> simp [ev_drop]
  · rename_i ty ps _
    rw [partsX_drop]
    cases T ty with
    | none => rfl
    | some d =>
      cases partsX s.ev ps.toList with
      | none => rfl
      | some qs =>
        simp only [Option.map_some]
        split
        · have h1 := fillX_drop (fun i => d.fields[i]?) t qs (zeroX d)
          rw [zeroX_drop] at h1
          rw [h1, mapD_outO]
          cases fillX (fun i => d.fields[i]?) (zeroX d) qs <;> simp [X.drop, drops_eq]
        · split
          · rename_i de _
            have h1 := fillX_drop (fun i => some (i * de.size, de.size)) t qs (zeroX d)
            rw [zeroX_drop] at h1
            rw [h1, mapD_outO]
            cases fillX (fun i => some (i * de.size, de.size)) (zeroX d) qs <;> simp [X.drop, drops_eq]
          · rfl
        · rfl
  · rename_i ty n ps _
    rw [partsX_drop]
    cases elemOf T ty with
    | none => rfl
    | some ed =>
      obtain ⟨e, d⟩ := ed
      cases partsX s.ev ps.toList with
      | none => rfl
      | some qs =>
        simp only [Option.map_some]
        split
        · have h0 : ((List.replicate n (zeroX d)).flatten).map (X.drop t) = (List.replicate n (zeroX d)).flatten := by
            rw [List.map_flatten, List.map_replicate, zeroX_drop]
          have h1 := fillX_drop (fun i => some (i * d.size, d.size)) t qs ((List.replicate n (zeroX d)).flatten)
          rw [h0] at h1
          rw [h1]
          cases fillX (fun i => some (i * d.size, d.size)) ((List.replicate n (zeroX d)).flatten) qs with
          | none => rfl
          | some xs =>
            simp only [Option.map_some, rds_drop]
            cases X.rds xs with
            | none => rfl
            | some cs =>
              simp only [mapD_out, X.drop]
              rw [if_neg (fun e => ht 0 e.symm)]
              rfl
        · rfl
  · rename_i x i _
    rw [ev_drop]
    cases s.ev x with
    | of c =>
      cases c <;> simp only [X.drop, mapD_none, mapD_outO]
      rename_i cs
      cases cs[i]? <;> rfl
    | own t' e z cs n => rcases own_drop t t' e z cs n with h | h <;> rw [h] <;> rfl
    | tup xs => simp [X.drop, drops_eq, mapD_outO]
    | _ => rfl
  · rename_i x _
    rw [ev_drop]
    cases s.ev x with
    | of c => cases c <;> simp only [X.drop, mapD_none, mapD_out]
    | own t' e z cs n => rcases own_drop t t' e z cs n with h | h <;> rw [h] <;> rfl
    | _ => simp [X.drop, mapD, out]
  · rw [rdAll_drop]
    split
    · split
      · simp [mapD_out, X.drop]
      · rfl
    · rfl
  · rw [ev_drop, convertX_drop]
  · rw [ev_drop, ev_drop]; exact lookupX_drop T t s _ _ _ _
  · rw [ev_drop, rd_drop]
    split
    · simp [mapD_out, X.drop]
    · rfl
  · exact valCall_drop P T E t s ix ht _ _ _
  · rfl
end Go.Pe
namespace Go.Pe
open Go.RowKit

theorem ev_put (s : S) (d : Option Nat) (z : X) (x : Operand) (h : ∀ j, d = some j → x ≠ .tmp j) : (s.put d z).ev x = s.ev x := by
  cases d with
  | none => rfl
  | some d =>
    cases x with
    | tmp t =>
      have : t ≠ d := fun e => h d rfl (by rw [e])
      simp [S.put, S.ev, upd, this]
    | _ => rfl

theorem partsX_congr {f g : Operand → X} : ∀ (ps : List (Nat × Operand)), (∀ p ∈ ps, f p.2 = g p.2) → partsX f ps = partsX g ps
  | [], _ => rfl
  | (i, x) :: r, h => by
    simp only [partsX]
    rw [h (i, x) (by simp), partsX_congr r (fun p hp => h p (by simp [hp]))]

theorem rdAll_congr {f g : Operand → X} : ∀ (l : List Operand), (∀ x ∈ l, f x = g x) → rdAll f l = rdAll g l
  | [], _ => rfl
  | x :: r, h => by
    simp only [rdAll]
    rw [h x (by simp), rdAll_congr r (fun p hp => h p (by simp [hp]))]

theorem val_congr (P : Program) (T : TT) (E : En) {s s' : S} (ix : Nat) (o : Oper) (hc : s'.clk = s.clk) (hob : s'.objs = s.objs) (h : ∀ x ∈ o.op.operands.toList, s'.ev x = s.ev x) :
    val P T E s' ix o = val P T E s ix o := by
  unfold val
  split <;> rename_i ho <;> (try rw [ho] at h)
  · rw [h _ (by simp [Op.operands])]
  · rw [h _ (by simp [Op.operands])]
  · rw [h _ (by simp [Op.operands]), h _ (by simp [Op.operands]), h _ (by simp [Op.operands])]
  · rw [h _ (by simp [Op.operands]), h _ (by simp [Op.operands])]
  · rw [h _ (by simp [Op.operands])]
  · rw [h _ (by simp [Op.operands]), hob]
  · rw [h _ (by simp [Op.operands])]
  · rw [h _ (by simp [Op.operands])]
  · rw [h _ (by simp [Op.operands]), h _ (by simp [Op.operands])]
  · rw [h _ (by simp [Op.operands]), h _ (by simp [Op.operands])]
  · rename_i t x lo hi
    rw [h x (by simp [Op.operands])]
    have h1 : lo.map s'.ev = lo.map s.ev := by
      cases lo with
      | none => rfl
      | some y => simp [h y (by simp [Op.operands])]
    have h2 : hi.map s'.ev = hi.map s.ev := by
      cases hi with
      | none => rfl
      | some y => simp [h y (by simp [Op.operands])]
    rw [h1, h2]
  · rename_i t ps
    rw [partsX_congr (f := s'.ev) (g := s.ev) ps.toList (fun p hp => h p.2 (by simp only [Op.operands]; exact List.mem_map.2 ⟨p, hp, rfl⟩))]
  · rename_i t n ps
    rw [partsX_congr (f := s'.ev) (g := s.ev) ps.toList (fun p hp => h p.2 (by simp only [Op.operands]; exact List.mem_map.2 ⟨p, hp, rfl⟩)), hc]
  · rw [h _ (by simp [Op.operands])]
  · rw [h _ (by simp [Op.operands])]
  · rename_i f first caps
    rw [rdAll_congr (f := s'.ev) (g := s.ev) caps.toList (fun x hx => h x (by simp only [Op.operands, Array.toList_append, List.mem_append]; exact .inr hx))]
  · rw [h _ (by simp [Op.operands])]
  · rw [h _ (by simp [Op.operands]), h _ (by simp [Op.operands]), hob]
  · rw [h _ (by simp [Op.operands])]
  · rename_i cal args tys
    have hargs : ∀ x ∈ args.toList, s'.ev x = s.ev x := fun x hx => h x (by simp only [Op.operands, Call.operands, Array.toList_append, List.mem_append]; exact .inr hx)
    unfold valCall
    split
    · rename_i hl _; rw [hargs _ (by rw [hl]; simp)]
    · rename_i hl _; rw [hargs _ (by rw [hl]; simp), hargs _ (by rw [hl]; simp), hc]
    · rename_i hl; rw [hargs _ (by rw [hl]; simp), hargs _ (by rw [hl]; simp)]
    · rename_i f
      rw [rdAll_congr (f := s'.ev) (g := s.ev) args.toList hargs, h f (by simp [Op.operands, Call.operands]), hc]
    · rfl
  · rfl

/-- What an operation that turns no object yields in a state. -/
def Y (P : Program) (T : TT) (E : En) (ops : Array Oper) (s : S) (ix : Nat) (o : Oper) (x : X) (e : Option Tk) : Prop :=
  (guardOk ops s o = some true ∧ val P T E s ix o = some (x, e) ∧ okTk s.clk o.after.toList e = true) ∨ (guardOk ops s o = some false ∧ x = .of .undef ∧ e = none)

section
variable {P : Program} {T : TT} {E : En} {ops : Array Oper} {s : S} {ix : Nat} {o : Oper}

theorem step_neutral : step P T E true s ix o = stepV P T E s ix o := rfl

theorem Y_of_step {q : Option X} {s' : S} (h : stepG P T E true ops s ix o = some (q, s')) : q = none ∧ ∃ x e, Y P T E ops s ix o x e ∧ s' = (s.drop e).put o.dst x := by
  unfold stepG at h
  split at h
  · rename_i hg
    rw [step_neutral] at h
    unfold stepV at h
    split at h
    · rename_i x e hv
      split at h
      · rename_i hok
        simp only [Option.some.injEq, Prod.mk.injEq] at h
        exact ⟨h.1.symm, x, e, .inl ⟨hg, hv, hok⟩, h.2.symm⟩
      · cases h
    · cases h
  · rename_i hg
    simp only [Option.some.injEq, Prod.mk.injEq] at h
    exact ⟨h.1.symm, _, none, .inr ⟨hg, rfl, rfl⟩, h.2.symm⟩
  · cases h

theorem step_of_Y {x : X} {e : Option Tk} (h : Y P T E ops s ix o x e) : stepG P T E true ops s ix o = some (none, (s.drop e).put o.dst x) := by
  unfold stepG
  rcases h with ⟨hg, hv, hok⟩ | ⟨hg, rfl, rfl⟩
  · rw [hg, step_neutral]
    unfold stepV
    simp only [hv, hok, if_true]
  · rw [hg]
    rfl

theorem guard_drop (t : Tk) : guardOk ops (s.drop (some t)) o = guardOk ops s o := by
  unfold guardOk
  split
  · rfl
  · split
    · rename_i d _
      simp only [S.drop]
      cases s.fr d with
      | own t' e z cs n => rcases own_drop t t' e z cs n with h | h <;> rw [h]
      | _ => rfl
    · rfl

theorem guard_put {d : Option Nat} {z : X} (h : ∀ j, d = some j → j ∉ o.looksAt ops) : guardOk ops (s.put d z) o = guardOk ops s o := by
  unfold guardOk
  split
  · rfl
  · rename_i j want hg
    split
    · rename_i c hc
      have hne : ∀ q, d = some q → c ≠ q := fun q hq e => h q hq (by
        unfold Oper.looksAt
        rw [hg]
        simp [hc, e])
      cases d with
      | none => rfl
      | some q =>
        have := hne q rfl
        simp [S.put, upd, this]
    · rfl

theorem Y_put {x : X} {e : Option Tk} {d : Option Nat} {z : X} (h : ∀ j, d = some j → j ∉ o.looksAt ops) : Y P T E ops (s.put d z) ix o x e ↔ Y P T E ops s ix o x e := by
  unfold Y
  have hv : val P T E (s.put d z) ix o = val P T E s ix o := by
    refine val_congr P T E ix o (by cases d <;> rfl) (by cases d <;> rfl) fun y hy => ev_put s d z y fun j hj e => h j hj ?_
    unfold Oper.looksAt
    rw [List.mem_append]
    refine .inl (List.mem_filterMap.2 ⟨y, hy, ?_⟩)
    rw [e]
  rw [guard_put h, hv, show (s.put d z).clk = s.clk by cases d <;> rfl]

theorem Y_drop {x : X} {e : Option Tk} {t : Tk} (ht : ∀ i, t ≠ .nm s.clk ix i) (hne : e ≠ some t) (h : Y P T E ops s ix o x e) : Y P T E ops (s.drop (some t)) ix o (x.drop t) e := by
  unfold Y at *
  rw [guard_drop, val_drop P T E t s ix ht o]
  rcases h with ⟨hg, hv, hok⟩ | ⟨hg, rfl, rfl⟩
  · exact .inl ⟨hg, by rw [hv]; simp [mapD, hne], hok⟩
  · exact .inr ⟨hg, rfl, rfl⟩

theorem Y_undrop {x : X} {e : Option Tk} {t : Tk} (ht : ∀ i, t ≠ .nm s.clk ix i) (h : Y P T E ops (s.drop (some t)) ix o x e) : ∃ x', Y P T E ops s ix o x' e ∧ x = x'.drop t ∧ e ≠ some t := by
  unfold Y at *
  rw [guard_drop, val_drop P T E t s ix ht o] at h
  rcases h with ⟨hg, hv, hok⟩ | ⟨hg, rfl, rfl⟩
  · cases hval : val P T E s ix o with
    | none => rw [hval] at hv; simp [mapD] at hv
    | some p =>
      obtain ⟨x', u⟩ := p
      rw [hval] at hv
      simp only [mapD] at hv
      split at hv
      · cases hv
      · rename_i hne
        simp only [Option.some.injEq, Prod.mk.injEq] at hv
        obtain ⟨rfl, rfl⟩ := hv
        exact ⟨x', .inl ⟨hg, rfl, hok⟩, rfl, hne⟩
  · exact ⟨.of .undef, .inr ⟨hg, rfl, rfl⟩, rfl, by simp⟩

/-- A right used up is an old one, or one that an operation yields for which it waits. -/
theorem Y_tk {x : X} {c j i : Nat} (h : Y P T E ops s ix o x (some (.nm c j i))) : c < s.clk ∨ (c = s.clk ∧ ∃ e ∈ o.after, Region.binds .any e = true ∧ e.on = j) := by
  rcases h with ⟨_, _, hok⟩ | ⟨_, _, h⟩
  · simp only [okTk, Bool.or_eq_true, decide_eq_true_eq, Bool.and_eq_true, List.any_eq_true, beq_iff_eq] at hok
    rcases hok with h | ⟨h1, e, he, h2, h3⟩
    · exact .inl h
    · exact .inr ⟨h1, e, by simpa using he, h2, h3⟩
  · cases h
end

theorem put_drop (s : S) (d : Option Nat) (x : X) (t : Tk) : (s.put d x).drop (some t) = (s.drop (some t)).put d (x.drop t) := by
  cases d with
  | none => rfl
  | some d =>
    simp only [S.put, S.drop]
    congr 1
    funext j
    simp only [upd]
    split <;> rfl

theorem put_put (s : S) {d c : Option Nat} (x y : X) (h : ∀ j, d = some j → c ≠ some j) : (s.put d x).put c y = (s.put c y).put d x := by
  cases d with
  | none => rfl
  | some d =>
    cases c with
    | none => rfl
    | some c =>
      have hne : c ≠ d := fun e => h d rfl (by rw [e])
      simp only [S.put]
      congr 1
      funext j
      simp only [upd]
      by_cases h1 : j = d
      · subst h1
        rw [if_neg (Ne.symm hne)]
        simp
      · simp [h1]

theorem obdrop_drop (t u : Tk) (o : Ob) : (o.drop t).drop u = (o.drop u).drop t := by
  cases o with
  | var ty xs => simp only [Ob.drop, drops_eq, List.map_map]; congr 1; apply List.map_congr_left; intro x _; exact drop_drop t u x
  | map es => rfl

theorem sdrop_drop (s : S) (e u : Option Tk) : (s.drop e).drop u = (s.drop u).drop e := by
  cases e with
  | none => rfl
  | some e =>
    cases u with
    | none => rfl
    | some u =>
      simp only [S.drop]
      congr 1
      · funext j; exact drop_drop e u _
      · simp only [List.map_map]; apply List.map_congr_left; intro o _; exact obdrop_drop e u o

/-- Two operations, apart from each other, in either order. -/
theorem comm {P : Program} {T : TT} {E : En} {ops : Array Oper} {s s1 s2 : S} {i j : Nat} {oi oj : Oper} (hap : oi.apart ops oj = true)
    (hij : ∀ e ∈ oi.after, Region.binds .any e = true → e.on ≠ j) (hji : ∀ e ∈ oj.after, Region.binds .any e = true → e.on ≠ i)
    (h1 : stepG P T E true ops s i oi = some (none, s1)) (h2 : stepG P T E true ops s1 j oj = some (none, s2)) : ∃ s', stepG P T E true ops s j oj = some (none, s') ∧ stepG P T E true ops s' i oi = some (none, s2) := by
  obtain ⟨a1, a2, a3⟩ := Oper.apart_spec hap
  obtain ⟨_, xi, ei, yi, rfl⟩ := Y_of_step h1
  obtain ⟨_, xj, ej, yj, rfl⟩ := Y_of_step h2
  have yj1 : Y P T E ops (s.drop ei) j oj xj ej := (Y_put (fun d hd => a1 d hd)).1 yj
  -- the second, in the state before the first
  obtain ⟨xj', yj2, hxj, hne⟩ : ∃ x', Y P T E ops s j oj x' ej ∧ xj = dropOpt ei x' ∧ (ei = none ∨ ej ≠ ei) := by
    cases ei with
    | none => exact ⟨xj, yj1, rfl, .inl rfl⟩
    | some t =>
      have ht : ∀ q, t ≠ .nm s.clk j q := fun q e => by
        subst e
        rcases Y_tk yi with h | ⟨_, e, he, hb, h⟩
        · omega
        · exact hij e he hb h
      obtain ⟨x', g1, g2, g3⟩ := Y_undrop ht yj1
      exact ⟨x', g1, g2, .inr g3⟩
  refine ⟨(s.drop ej).put oj.dst xj', step_of_Y yj2, ?_⟩
  -- the first, in the state behind the second
  have yi2 : Y P T E ops (s.drop ej) i oi (dropOpt ej xi) ei := by
    cases ej with
    | none => exact yi
    | some t =>
      have ht : ∀ q, t ≠ .nm s.clk i q := fun q e => by
        subst e
        rcases Y_tk yj2 with h | ⟨_, e, he, hb, h⟩
        · omega
        · exact hji e he hb h
      refine Y_drop ht ?_ yi
      rcases hne with h | h
      · rw [h]; simp
      · exact Ne.symm h
  have yi3 : Y P T E ops ((s.drop ej).put oj.dst xj') i oi (dropOpt ej xi) ei := (Y_put (fun d hd => a3 d hd)).2 yi2
  rw [step_of_Y yi3]
  congr 1
  have hd : ∀ d, oj.dst = some d → oi.dst ≠ some d := fun d hd e => a2 d e hd
  have e1 : ((s.drop ej).put oj.dst xj').drop ei = ((s.drop ej).drop ei).put oj.dst xj := by
    rw [hxj]
    cases ei with
    | none => rfl
    | some t => exact put_drop _ _ _ _
  have e2 : ((s.drop ei).put oi.dst xi).drop ej = ((s.drop ei).drop ej).put oi.dst (dropOpt ej xi) := by
    cases ej with
    | none => rfl
    | some t => exact put_drop _ _ _ _
  rw [e1, e2, put_put _ _ _ (fun d h => hd d h), sdrop_drop]

def anyA (P : Program) (T : TT) (E : En) (ops : Array Oper) (Q : S → Prop) : Nat → Array Bool → S → Prop
  | 0, listed, s => Region.ready .any ops listed = [] ∧ Q s
  | fuel + 1, listed, s => (Region.ready .any ops listed = [] → Q s) ∧
    ∀ i ∈ Region.ready .any ops listed, ∃ o s', ops[i]? = some o ∧ stepG P T E true ops s i o = some (none, s') ∧ anyA P T E ops Q fuel (listed.setIfInBounds i true) s'

section
variable {P : Program} {T : TT} {E : En} {ops : Array Oper} {Q : S → Prop}

theorem ready_after {i : Nat} {listed : Array Bool} {o : Oper} (hi : i ∈ Region.ready .any ops listed) (ho : ops[i]? = some o) {j : Nat} (hj : listed.getD j true = false) : ∀ e ∈ o.after, Region.binds .any e = true → e.on ≠ j := by
  obtain ⟨_, oi, hoi, hall⟩ := mem_ready.1 hi
  obtain rfl : oi = o := Option.some.inj (hoi.symm.trans ho)
  intro e he hb heq
  have h1 := hall e he hb
  rw [heq] at h1
  rcases Nat.lt_or_ge j listed.size with h' | h'
  · simp [h'] at hj h1; rw [hj] at h1; cases h1
  · simp [Array.getElem?_eq_none h'] at h1

theorem anyA_first {i : Nat} {oi : Oper} (hi : ops[i]? = some oi) : ∀ (fuel : Nat) (listed : Array Bool) (s s1 : S),
    (∀ (j : Nat) (oj : Oper), ops[j]? = some oj → j ≠ i → listed.getD j true = false → (∀ e ∈ oj.after, Region.binds .any e = true → e.on ≠ i) → oi.apart ops oj = true) →
    i ∈ Region.ready .any ops listed → stepG P T E true ops s i oi = some (none, s1) → anyA P T E ops Q fuel (listed.setIfInBounds i true) s1 → anyA P T E ops Q (fuel + 1) listed s := by
  intro fuel
  induction fuel with
  | zero =>
    intro listed s s1 _ hr hs H
    refine ⟨fun h => (by rw [h] at hr; cases hr), fun j hj => ?_⟩
    by_cases hji : j = i
    · subst hji; exact ⟨oi, s1, hi, hs, H⟩
    · have := ready_mono hj hji
      rw [H.1] at this
      cases this
  | succ fuel ih =>
    intro listed s s1 hfree hr hs H
    refine ⟨fun h => (by rw [h] at hr; cases hr), fun j hj => ?_⟩
    by_cases hji : j = i
    · subst hji; exact ⟨oi, s1, hi, hs, H⟩
    · obtain ⟨oj, s2, hoj, hs2, H2⟩ := H.2 j (ready_mono hj hji)
      have hjun := (mem_ready.1 hj).1
      have hiun := (mem_ready.1 hr).1
      have hji' := ready_after hj hoj hiun
      have hij' := ready_after hr hi hjun
      obtain ⟨s', g1, g2⟩ := comm (hfree j oj hoj hji hjun hji') hij' hji' hs hs2
      refine ⟨oj, s', hoj, g1, ih (listed.setIfInBounds j true) s' s2 (fun k ok hk hki hun hno => ?_) (ready_mono hr (Ne.symm hji)) g2 (by rw [Array.setIfInBounds_comm _ _ hji]; exact H2)⟩
      refine hfree k ok hk hki ?_ hno
      by_cases hjk : j = k
      · subst hjk; exact hjun
      · rw [getD_set_ne true hjk] at hun; exact hun

theorem anyA_lex : ∀ (l : List Oper) (n : Nat) (listed : Array Bool) (s s' : S), (∀ j, l[j]? = ops[n + j]?) → Region.lexFrom .any ops l.length n listed = true →
    evOps P T E true ops n l s = some (none, s') → Q s' → anyA P T E ops Q l.length listed s
  | [], n, listed, s, s', _, hB, h, hQ => by
    simp only [evOps, Option.some.injEq, Prod.mk.injEq, true_and] at h
    subst h
    exact ⟨by simpa [Region.lexFrom] using hB, hQ⟩
  | o :: l, n, listed, s, s', hl, hB, h, hQ => by
    have h0 : ops[n]? = some o := by simpa using (hl 0).symm
    simp only [List.length_cons, Region.lexFrom, Bool.and_eq_true] at hB
    obtain ⟨⟨hr, hf⟩, hB'⟩ := hB
    simp only [evOps] at h
    split at h
    · rename_i s1 h1
      exact anyA_first h0 l.length listed s s1 (Region.free_spec h0 hf) (by simpa using hr) h1
        (anyA_lex l (n + 1) _ s1 s' (fun j => by have := hl (j + 1); simpa [Nat.add_assoc, Nat.add_comm 1 j] using this) hB' h hQ)
    · cases h
    · cases h
end

section
variable {P : Program} {M0 : Base} {w0 : World} {N : Nat}

theorem anyA_sound {E : En} (horc : EnSound P M0.G E) {ops : Array Oper} (hdst : ∀ (j : Nat) (o : Oper), ops[j]? = some o → dstOk N o = true) {Q : Exit → Act → World → Prop} {Qs : S → Prop} {k0 : Know}
    (hQ : ∀ s' tmps' w' k' ow' done', k0.le k' → Qs s' → Sim M0 k' ow' done' w0 w' N s' tmps' → Q .normal ⟨tmps', []⟩ w') : ∀ (fuel : Nat) (listed : Array Bool) (s : S) (w : World) (tmps : Array Value) (k : Know) (ow : Own),
    k0.le k → Sim M0 k ow (fun j => listed.getD j true = true) w0 w N s tmps → anyA P (TT.of P) E ops Qs fuel listed s → wpAny P .any ops Q fuel listed ⟨tmps, []⟩ w
  | 0, listed, s, w, tmps, k, ow, hk, hs, h => ⟨h.1, hQ s tmps w k ow _ hk h.2 hs⟩
  | fuel + 1, listed, s, w, tmps, k, ow, hk, hs, h => by
    refine ⟨fun h0 => hQ s tmps w k ow _ hk (h.1 h0) hs, fun i hi => ?_⟩
    obtain ⟨o, s', ho, hst, H⟩ := h.2 i hi
    have hun := (mem_ready.1 hi).1
    refine stepG_sound hs horc (by rw [hun]; simp) ho (hdst i o ho) hst (fun _ tmps' w' k' ow' g1 g2 => ?_) (fun x hx => by cases hx)
    refine anyA_sound horc hdst hQ fuel _ s' w' tmps' k' ow' (Know.le_trans hk g1) (g2.more fun j hj => ?_) H
    rcases hj with hj | rfl
    · by_cases hij : i = j
      · subst hij; rw [hun] at hj; cases hj
      · rw [getD_set_ne true hij]; exact hj
    · rcases Nat.lt_or_ge j listed.size with g | g
      · simp [g]
      · simp [g]

/-- In a region that draws its order nothing panics. -/
theorem evOps_calm {P : Program} {T : TT} {E : En} {ops : Array Oper} : ∀ (l : List Oper) (n : Nat) (s : S) (q : Option X) (s' : S), evOps P T E true ops n l s = some (q, s') → q = none
  | [], n, s, q, s', h => by
    simp only [evOps, Option.some.injEq, Prod.mk.injEq] at h
    exact h.1.symm
  | o :: l, n, s, q, s', h => by
    simp only [evOps] at h
    split at h
    · exact evOps_calm l _ _ _ _ h
    · rename_i h1
      exact absurd (Y_of_step h1).1 (by simp)
    · cases h

end

def OkRef (L : Nat) : X → Prop
  | .ptr r _ => r < L
  | .mp r => r < L
  | _ => True
theorem val_grow {P : Program} {T : TT} {E : En} {s : S} {ix : Nat} {o : Oper} {ob : Ob} {y : X × Option Tk} (hwf : ∀ y : Operand, OkRef s.objs.length (s.ev y)) (h : val P T E { s with objs := s.objs ++ [ob] } ix o = some y) : val P T E s ix o = some y := by
  cases hop : o.op with
  | load t a =>
    simp only [val, hop] at h ⊢
    have ha := hwf a
    have e : ({ s with objs := s.objs ++ [ob] } : S).ev a = s.ev a := rfl
    rw [e] at h
    cases hx : s.ev a with
    | ptr r off =>
      rw [hx] at h ha
      simp only [loadX] at h ⊢
      rw [List.getElem?_append_left (show r < s.objs.length from ha)] at h
      exact h
    | of c => rw [hx] at h; cases c <;> exact h
    | _ => rw [hx] at h; exact h
  | lookup t x i b =>
    simp only [val, hop] at h ⊢
    have ha := hwf x
    have e : ({ s with objs := s.objs ++ [ob] } : S).ev x = s.ev x := rfl
    have e2 : ({ s with objs := s.objs ++ [ob] } : S).ev i = s.ev i := rfl
    rw [e, e2] at h
    have hm : mapOf (s.objs ++ [ob]) (s.ev x) = mapOf s.objs (s.ev x) := by
      cases hx : s.ev x with
      | mp r =>
        rw [hx] at ha
        simp only [mapOf]
        rw [List.getElem?_append_left (show r < s.objs.length from ha)]
      | of c =>
        cases c with
        | lit v =>
          cases v with
          | map p => cases p <;> rfl
          | _ => rfl
        | _ => rfl
      | _ => rfl
    unfold lookupX at h ⊢
    rw [hm] at h
    exact h
  | makeFunc f a b =>
    simp only [val, hop] at h ⊢
    cases f <;> exact h
  | slice t x lo hi mx =>
    simp only [val, hop] at h ⊢
    cases mx <;> exact h
  | _ =>
    simp only [val, hop] at h ⊢
    exact h
theorem Y_grow {P : Program} {T : TT} {E : En} {ops : Array Oper} {s : S} {ix : Nat} {o : Oper} {ob : Ob} {x : X} {e : Option Tk} (hwf : ∀ y : Operand, OkRef s.objs.length (s.ev y)) (h : Y P T E ops { s with objs := s.objs ++ [ob] } ix o x e) : Y P T E ops s ix o x e := by
  rcases h with ⟨h1, h2, h3⟩ | ⟨h1, h2, h3⟩
  · exact .inl ⟨h1, val_grow hwf h2, h3⟩
  · exact .inr ⟨h1, h2, h3⟩
theorem mk_comm {P : Program} {T : TT} {E : En} {ops : Array Oper} {s s1 s2 : S} {j : Nat} {o0 oj : Oper} (hap : o0.apart ops oj = true) (hwf : ∀ y : Operand, OkRef s.objs.length (s.ev y))
    (h1 : mkS P E s o0 = some s1) (h2 : stepG P T E true ops s1 j oj = some (none, s2)) : ∃ s', stepG P T E true ops s j oj = some (none, s') ∧ mkS P E s' o0 = some s2 := by
  obtain ⟨a1, a2, a3⟩ := Oper.apart_spec hap
  unfold mkS at h1
  simp only [Option.map_eq_some_iff] at h1
  obtain ⟨es, he, rfl⟩ := h1
  obtain ⟨_, xj, ej, yj, rfl⟩ := Y_of_step h2
  have yj1 := Y_grow hwf ((Y_put (fun d hd => a1 d hd)).1 yj)
  refine ⟨(s.drop ej).put oj.dst xj, step_of_Y yj1, ?_⟩
  unfold mkS
  rw [he]
  simp only [Option.map_some, Option.some.injEq]
  have hd : ∀ d, oj.dst = some d → o0.dst ≠ some d := fun d hd e => a2 d e hd
  have e1 : (({ s with objs := s.objs ++ [Ob.map es] } : S).put o0.dst (.mp s.objs.length)).drop ej = ({ s.drop ej with objs := (s.drop ej).objs ++ [Ob.map es] } : S).put o0.dst (.mp s.objs.length) := by
    cases ej with
    | none => rfl
    | some t =>
      rw [put_drop]
      simp only [S.drop, List.map_append, List.map_cons, List.map_nil, Ob.drop, X.drop]
  have e2 : ((s.drop ej).put oj.dst xj).objs.length = s.objs.length := by
    cases ej <;> cases oj.dst <;> simp [S.put, S.drop]
  have e3 : ({ (s.drop ej).put oj.dst xj with objs := ((s.drop ej).put oj.dst xj).objs ++ [Ob.map es] } : S) = ({ s.drop ej with objs := (s.drop ej).objs ++ [Ob.map es] } : S).put oj.dst xj := by
    cases oj.dst <;> rfl
  rw [e1, e2, e3, put_put _ _ _ (fun d h => hd d h)]
theorem keep_none : keepTk [] [] = some := by
  funext t
  cases t <;> simp [keepTk]
theorem mk_step {P : Program} {T : TT} {E : En} {ops : Array Oper} {s s1 : S} {ix : Nat} {o : Oper} (hmk : (isMkOp E.obj o.op && o.guard.isNone) = true) (h : mkS P E s o = some s1) : stepG P T E false ops s ix o = some (none, s1) := by
  simp only [Bool.and_eq_true, Option.isNone_iff_eq_none] at hmk
  obtain ⟨hmk, hg⟩ := hmk
  unfold mkS at h
  simp only [Option.map_eq_some_iff] at h
  obtain ⟨es, he, rfl⟩ := h
  unfold stepG guardOk
  rw [hg]
  simp only
  unfold isMkOp at hmk
  split at hmk
  rotate_left
  · cases hmk
  rename_i g args tys hop
  simp only [Bool.and_eq_true] at hmk
  obtain ⟨hargs, hobj⟩ := hmk
  have ha : args.toList = [] := by simpa using hargs
  simp only [mkA, hop] at he
  split at he
  rotate_left
  · cases he
  rename_i hc
  split at he
  rotate_left
  · cases he
  rename_i es' ho
  simp only [Option.some.injEq] at he
  subst he
  unfold step
  simp only [Bool.false_eq_true, if_false, hop, ha]
  have ht : target s (.value (.func g)) [] = some (g, []) := rfl
  rw [ht]
  simp only [hobj, if_true]
  unfold callS
  rw [if_pos hc]
  have hr : reach s.objs 999 (X.refsL []) [] = [] := rfl
  have hts : (if E.tk g = true then nub (X.toksL []) [] else []) = [] := by split <;> rfl
  simp only [hr, hts, pickObs, X.trs, ho]
  unfold backS
  simp only [List.length_nil, Nat.zero_le, if_true, keep_none, setObs, List.drop_zero, List.map_cons, List.map_nil, Ob.tr, X.trs, X.tr, oneX, sigBack, List.getElem?_nil, Nat.sub_zero, Nat.add_zero]
  congr 2
  have e1 : (fun j => (s.fr j).tr some some) = s.fr := by funext j; exact X.tr_id _
  have e2 : s.objs.map (Ob.tr some some) = s.objs := by
    conv => rhs; rw [← List.map_id s.objs]
    exact List.map_congr_left fun o _ => Ob.tr_id o
  rw [e1, e2]

section
variable {P : Program} {M0 : Base} {w0 : World} {N : Nat}
theorem ok_refs {k : Know} {ow : Own} {done : Nat → Prop} {w : World} {s : S} {tmps : Array Value} (hs : Sim M0 k ow done w0 w N s tmps) (y : Operand) : OkRef s.objs.length (s.ev y) := by
  have h := hs.ev y
  cases hx : s.ev y with
  | ptr r off =>
    rw [hx] at h
    simp only [RepX] at h
    obtain ⟨b, hb, _⟩ := h
    exact hs.dom r b hb
  | mp r =>
    rw [hx] at h
    simp only [RepX] at h
    obtain ⟨b, hb, _⟩ := h
    exact hs.dom r b hb
  | _ => trivial
theorem mk_sound {E : En} (horc : EnSound P M0.G E) {ops : Array Oper} (hdst : ∀ (j : Nat) (o : Oper), ops[j]? = some o → dstOk N o = true) {Q : Exit → Act → World → Prop} {Qs : S → Prop} {k0 : Know}
    (hQ : ∀ s' tmps' w' k' ow' done', k0.le k' → Qs s' → Sim M0 k' ow' done' w0 w' N s' tmps' → Q .normal ⟨tmps', []⟩ w') {o0 : Oper} (h0 : ops[0]? = some o0) (hmk : (isMkOp E.obj o0.op && o0.guard.isNone) = true) :
    ∀ (fuel : Nat) (listed : Array Bool) (s s1 : S) (w : World) (tmps : Array Value) (k : Know) (ow : Own), k0.le k → Sim M0 k ow (fun j => listed.getD j true = true) w0 w N s tmps →
      (∀ (j : Nat) (oj : Oper), ops[j]? = some oj → j ≠ 0 → listed.getD j true = false → (∀ e ∈ oj.after, Region.binds .any e = true → e.on ≠ 0) → o0.apart ops oj = true) →
      0 ∈ Region.ready .any ops listed → mkS P E s o0 = some s1 → anyA P (TT.of P) E ops Qs fuel (listed.setIfInBounds 0 true) s1 → wpAny P .any ops Q (fuel + 1) listed ⟨tmps, []⟩ w := by
  have hmore : ∀ (listed : Array Bool) (i : Nat), listed.getD i true = false → ∀ j, (listed.setIfInBounds i true).getD j true = true → (listed.getD j true = true ∨ j = i) := fun listed i hun j hj => by
    by_cases hij : i = j
    · exact .inr hij.symm
    · rw [getD_set_ne true hij] at hj; exact .inl hj
  have hback : ∀ (listed : Array Bool) (i : Nat), listed.getD i true = false → ∀ j, (listed.getD j true = true ∨ j = i) → (listed.setIfInBounds i true).getD j true = true := fun listed i hun j hj => by
    rcases hj with hj | rfl
    · by_cases hij : i = j
      · subst hij; rw [hun] at hj; cases hj
      · rw [getD_set_ne true hij]; exact hj
    · rcases Nat.lt_or_ge j listed.size with g | g
      · simp [g]
      · simp [g]
  intro fuel
  induction fuel with
  | zero =>
    intro listed s s1 w tmps k ow hk hs _ hr hm H
    refine ⟨fun h => (by rw [h] at hr; cases hr), fun j hj => ?_⟩
    have hun := (mem_ready.1 hj).1
    by_cases hj0 : j = 0
    · subst hj0
      refine stepG_sound (dr := false) hs horc (by rw [hun]; simp) h0 (hdst 0 o0 h0) (mk_step hmk hm) (fun _ tmps' w' k' ow' g1 g2 => ?_) (fun x hx => by cases hx)
      exact anyA_sound horc hdst hQ 0 _ s1 w' tmps' k' ow' (Know.le_trans hk g1) (g2.more (hback listed 0 hun)) H
    · have := ready_mono hj hj0
      rw [H.1] at this
      cases this
  | succ fuel ih =>
    intro listed s s1 w tmps k ow hk hs hfree hr hm H
    refine ⟨fun h => (by rw [h] at hr; cases hr), fun j hj => ?_⟩
    have hun := (mem_ready.1 hj).1
    by_cases hj0 : j = 0
    · subst hj0
      refine stepG_sound (dr := false) hs horc (by rw [hun]; simp) h0 (hdst 0 o0 h0) (mk_step hmk hm) (fun _ tmps' w' k' ow' g1 g2 => ?_) (fun x hx => by cases hx)
      exact anyA_sound horc hdst hQ (fuel + 1) _ s1 w' tmps' k' ow' (Know.le_trans hk g1) (g2.more (hback listed 0 hun)) H
    · obtain ⟨oj, s2, hoj, hs2, H2⟩ := H.2 j (ready_mono hj hj0)
      have h0un := (mem_ready.1 hr).1
      have hji' := ready_after hj hoj h0un
      obtain ⟨s', g1, g2⟩ := mk_comm (hfree j oj hoj hj0 hun hji') (ok_refs hs) hm hs2
      refine stepG_sound (dr := true) hs horc (by rw [hun]; simp) hoj (hdst j oj hoj) g1 (fun _ tmps' w' k' ow' q1 q2 => ?_) (fun x hx => by cases hx)
      refine ih (listed.setIfInBounds j true) s' s2 w' tmps' k' ow' (Know.le_trans hk q1) (q2.more (hback listed j hun)) (fun k ok hok hk0 hkun hno => ?_) (ready_mono hr (Ne.symm hj0)) g2 (by rw [Array.setIfInBounds_comm _ _ hj0]; exact H2)
      refine hfree k ok hok hk0 ?_ hno
      by_cases hjk : j = k
      · subst hjk; exact hun
      · rw [getD_set_ne true hjk] at hkun; exact hkun
end

def Dn (ops : Array Oper) (i : Nat) : Bool := decide (i + 1 < ops.size)
def anyB (P : Program) (T : TT) (E : En) (ops : Array Oper) (Q : S → Prop) : Nat → Array Bool → S → Prop
  | 0, listed, s => Region.ready .any ops listed = [] ∧ Q s
  | fuel + 1, listed, s => (Region.ready .any ops listed = [] → Q s) ∧
    ∀ i ∈ Region.ready .any ops listed, ∃ o s', ops[i]? = some o ∧ stepG P T E (Dn ops i) ops s i o = some (none, s') ∧ anyB P T E ops Q fuel (listed.setIfInBounds i true) s'
/-- What is listed, what it waited for is listed too. -/
def Dc (ops : Array Oper) (listed : Array Bool) : Prop := ∀ (k : Nat) (o : Oper), ops[k]? = some o → listed.getD k true = true → ∀ e ∈ o.after, Region.binds .any e = true → listed.getD e.on false = true
theorem getD_false {listed : Array Bool} {i : Nat} (h : listed.getD i false = true) : listed.getD i true = true := by
  rcases Nat.lt_or_ge i listed.size with g | g
  · simp [g] at h ⊢; exact h
  · simp [g] at h
theorem set_false {listed : Array Bool} {i j : Nat} (h : listed.getD i false = true) : (listed.setIfInBounds j true).getD i false = true := by
  by_cases hij : j = i
  · subst hij
    rcases Nat.lt_or_ge j listed.size with g | g
    · simp [g]
    · simp [g] at h
  · rw [getD_set_ne false hij]; exact h
theorem Dc.set {ops : Array Oper} {listed : Array Bool} (h : Dc ops listed) {j : Nat} (hj : j ∈ Region.ready .any ops listed) : Dc ops (listed.setIfInBounds j true) := fun k o hk hl e he hb => by
  by_cases hjk : j = k
  · subst hjk
    obtain ⟨_, oj, hoj, hall⟩ := mem_ready.1 hj
    obtain rfl : oj = o := Option.some.inj (hoj.symm.trans hk)
    exact set_false (hall e he hb)
  · rw [getD_set_ne true hjk] at hl
    exact set_false (h k o hk hl e he hb)
theorem feed {ops : Array Oper} (hf : feedsB ops = true) {listed : Array Bool} (hd : Dc ops listed) : ∀ (m i : Nat), ops.size - i ≤ m → i + 1 < ops.size → listed.getD i true = false → ops.size - 1 ∉ Region.ready .any ops listed
  | 0, i, hm, hi, _, _ => by omega
  | m + 1, i, hm, hi, hun, hr => by
    have hfi := List.all_eq_true.1 hf i (List.mem_range.2 (by omega))
    simp only [List.any_eq_true, List.mem_range, Bool.and_eq_true, decide_eq_true_eq] at hfi
    obtain ⟨k, hk, hik, hx⟩ := hfi
    split at hx
    rotate_left
    · cases hx
    rename_i o ho
    simp only [Array.any_eq_true', Bool.and_eq_true, beq_iff_eq] at hx
    obtain ⟨e, he, hb, rfl⟩ := hx
    by_cases hkn : k = ops.size - 1
    · subst hkn
      obtain ⟨_, oj, hoj, hall⟩ := mem_ready.1 hr
      obtain rfl : oj = o := Option.some.inj (hoj.symm.trans ho)
      have := getD_false (hall e he hb)
      rw [hun] at this
      cases this
    · have hkun : listed.getD k true = false := by
        cases hl : listed.getD k true with
        | false => rfl
        | true =>
          have := getD_false (hd k o ho hl e he hb)
          rw [hun] at this
          cases this
      exact feed hf hd m k (by omega) (by omega) hkun hr
section
variable {P : Program} {T : TT} {E : En} {ops : Array Oper} {Q : S → Prop}
theorem anyB_first (hf : feedsB ops = true) {i : Nat} {oi : Oper} (hi : ops[i]? = some oi) (hin : i + 1 < ops.size) : ∀ (fuel : Nat) (listed : Array Bool) (s s1 : S), Dc ops listed →
    (∀ (j : Nat) (oj : Oper), ops[j]? = some oj → j ≠ i → listed.getD j true = false → (∀ e ∈ oj.after, Region.binds .any e = true → e.on ≠ i) → oi.apart ops oj = true) →
    i ∈ Region.ready .any ops listed → stepG P T E true ops s i oi = some (none, s1) → anyB P T E ops Q fuel (listed.setIfInBounds i true) s1 → anyB P T E ops Q (fuel + 1) listed s := by
  have hD : Dn ops i = true := decide_eq_true hin
  intro fuel
  induction fuel with
  | zero =>
    intro listed s s1 _ _ hr hs H
    refine ⟨fun h => (by rw [h] at hr; cases hr), fun j hj => ?_⟩
    by_cases hji : j = i
    · subst hji; exact ⟨oi, s1, hi, by rw [hD]; exact hs, H⟩
    · have := ready_mono hj hji
      rw [H.1] at this
      cases this
  | succ fuel ih =>
    intro listed s s1 hdc hfree hr hs H
    refine ⟨fun h => (by rw [h] at hr; cases hr), fun j hj => ?_⟩
    by_cases hji : j = i
    · subst hji; exact ⟨oi, s1, hi, by rw [hD]; exact hs, H⟩
    · obtain ⟨oj, s2, hoj, hs2, H2⟩ := H.2 j (ready_mono hj hji)
      have hjun := (mem_ready.1 hj).1
      have hiun := (mem_ready.1 hr).1
      have hjs : j < ops.size := (Array.getElem?_eq_some_iff.1 hoj).1
      have hjn : j + 1 < ops.size := by
        rcases Nat.lt_or_ge (j + 1) ops.size with g | g
        · exact g
        · obtain rfl : j = ops.size - 1 := by omega
          exact absurd hj (feed hf hdc _ i (Nat.le_refl _) hin hiun)
      have hDj : Dn ops j = true := decide_eq_true hjn
      rw [hDj] at hs2
      have hji' := ready_after hj hoj hiun
      have hij' := ready_after hr hi hjun
      obtain ⟨s', g1, g2⟩ := comm (hfree j oj hoj hji hjun hji') hij' hji' hs hs2
      refine ⟨oj, s', hoj, by rw [hDj]; exact g1, ih (listed.setIfInBounds j true) s' s2 (hdc.set hj) (fun k ok hk hki hun hno => ?_) (ready_mono hr (Ne.symm hji)) g2 (by rw [Array.setIfInBounds_comm _ _ hji]; exact H2)⟩
      refine hfree k ok hk hki ?_ hno
      by_cases hjk : j = k
      · subst hjk; exact hjun
      · rw [getD_set_ne true hjk] at hun; exact hun
theorem anyB_lex (hf : feedsB ops = true) : ∀ (l : List Oper) (n : Nat) (listed : Array Bool) (s s' : S) (q : Option X), n + l.length = ops.size → (∀ j, l[j]? = ops[n + j]?) → Dc ops listed → Region.lexFrom .any ops l.length n listed = true →
    evOpsB P T E ops n l s = some (q, s') → Q s' → q = none ∧ anyB P T E ops Q l.length listed s
  | [], n, listed, s, s', q, _, _, _, _, h, _ => by simp [evOpsB] at h
  | [o], n, listed, s, s', q, hn, hl, hdc, hB, h, hQ => by
    have h0 : ops[n]? = some o := by simpa using (hl 0).symm
    simp only [List.length_cons, List.length_nil, Region.lexFrom, Bool.and_eq_true] at hB
    obtain ⟨⟨hr, hfr⟩, hB'⟩ := hB
    have hr' : n ∈ Region.ready .any ops listed := by simpa using hr
    have he : Region.ready .any ops (listed.setIfInBounds n true) = [] := by simpa using hB'
    have hD : Dn ops n = false := decide_eq_false (by simp at hn; omega)
    simp only [evOpsB] at h
    split at h
    · rename_i s2 h1
      simp only [Option.some.injEq, Prod.mk.injEq] at h
      obtain ⟨rfl, rfl⟩ := h
      refine ⟨rfl, fun h => (by rw [h] at hr'; cases hr'), fun j hj => ?_⟩
      by_cases hji : j = n
      · subst hji; exact ⟨o, s2, h0, by rw [hD]; exact h1, he, hQ⟩
      · have := ready_mono hj hji
        rw [he] at this
        cases this
    · cases h
  | o :: o' :: l, n, listed, s, s', q, hn, hl, hdc, hB, h, hQ => by
    have h0 : ops[n]? = some o := by simpa using (hl 0).symm
    simp only [List.length_cons] at hB hn
    unfold Region.lexFrom at hB
    simp only [Bool.and_eq_true] at hB
    obtain ⟨⟨hr, hfr⟩, hB'⟩ := hB
    have hr' : n ∈ Region.ready .any ops listed := by simpa using hr
    simp only [evOpsB] at h
    split at h
    · rename_i s1 h1
      obtain ⟨e1, e2⟩ := anyB_lex hf (o' :: l) (n + 1) _ s1 s' q (by simp only [List.length_cons]; omega) (fun j => by have := hl (j + 1); simpa [Nat.add_assoc, Nat.add_comm 1 j] using this) (hdc.set hr') hB' h hQ
      exact ⟨e1, anyB_first hf h0 (by omega) _ listed s s1 hdc (Region.free_spec h0 hfr) hr' h1 e2⟩
    · cases h
end
section
variable {P : Program} {M0 : Base} {w0 : World} {N : Nat}
theorem anyB_sound {E : En} (horc : EnSound P M0.G E) {ops : Array Oper} (hdst : ∀ (j : Nat) (o : Oper), ops[j]? = some o → dstOk N o = true) {Q : Exit → Act → World → Prop} {Qs : S → Prop} {k0 : Know}
    (hQ : ∀ s' tmps' w' k' ow' done', k0.le k' → Qs s' → Sim M0 k' ow' done' w0 w' N s' tmps' → Q .normal ⟨tmps', []⟩ w') : ∀ (fuel : Nat) (listed : Array Bool) (s : S) (w : World) (tmps : Array Value) (k : Know) (ow : Own),
    k0.le k → Sim M0 k ow (fun j => listed.getD j true = true) w0 w N s tmps → anyB P (TT.of P) E ops Qs fuel listed s → wpAny P .any ops Q fuel listed ⟨tmps, []⟩ w
  | 0, listed, s, w, tmps, k, ow, hk, hs, h => ⟨h.1, hQ s tmps w k ow _ hk h.2 hs⟩
  | fuel + 1, listed, s, w, tmps, k, ow, hk, hs, h => by
    refine ⟨fun h0 => hQ s tmps w k ow _ hk (h.1 h0) hs, fun i hi => ?_⟩
    obtain ⟨o, s', ho, hst, H⟩ := h.2 i hi
    have hun := (mem_ready.1 hi).1
    refine stepG_sound hs horc (by rw [hun]; simp) ho (hdst i o ho) hst (fun _ tmps' w' k' ow' g1 g2 => ?_) (fun x hx => by cases hx)
    refine anyB_sound horc hdst hQ fuel _ s' w' tmps' k' ow' (Know.le_trans hk g1) (g2.more fun j hj => ?_) H
    rcases hj with hj | rfl
    · by_cases hij : i = j
      · subst hij; rw [hun] at hj; cases hj
      · rw [getD_set_ne true hij]; exact hj
    · rcases Nat.lt_or_ge j listed.size with g | g
      · simp [g]
      · simp [g]
end

section
variable {P : Program} {M0 : Base} {w0 : World} {N : Nat}
/-- A region, of either kind. -/
theorem region_sound (hm : P.follows .mixedOrders = true) {E : En} (horc : EnSound P M0.G E) {id : Nat} {ops : Array Oper} {draw : Bool} (hok : opsOk N ops draw = true) {s : S} {q : Option X} {s' : S} {w : World} {tmps : Array Value} {k : Know} {ow : Own}
    (hs : Sim M0 k ow (fun _ => False) w0 w N s tmps) (h : evR P (TT.of P) E draw ops s = some (q, s')) {Q : Exit → Act → World → Prop}
    (hQ : q = none → ∀ tmps' w' k' ow', k.le k' → Sim M0 k' ow' (fun _ => False) w0 w' N { s' with clk := s'.clk + 1 } tmps' → Q .normal ⟨tmps', []⟩ w')
    (hP : ∀ x, q = some x → ∀ v tmps' w' k' ow', k.le k' → Sim M0 k' ow' (fun _ => False) w0 w' N { s' with clk := s'.clk + 1 } tmps' → RepX k' ow' x v → Q (.panic [{ v := v, recovered := false }]) ⟨tmps', []⟩ w') : (Code.region id ops draw).wp P Q ⟨tmps, []⟩ w := by
  unfold opsOk at hok
  simp only [Bool.and_eq_true, Bool.or_eq_true, Bool.not_eq_true'] at hok
  obtain ⟨hd, hok⟩ := hok
  have hdst : ∀ o ∈ ops.toList, dstOk N o = true := fun o ho => by
    rw [Array.all_eq_true_iff_forall_mem] at hd
    exact hd o (by simpa using ho)
  cases draw with
  | false =>
    have h : evOps P (TT.of P) E false ops 0 ops.toList s = some (q, s') := by simpa [evR] using h
    refine wp_region ?_
    rw [List.range_eq_range', ← Array.length_toList]
    exact evOps_sound horc ops.toList 0 s w tmps k ow _ (by simp) hdst (fun j hj => hj.elim) hs h (fun he tmps' w' k' ow' done' g1 g2 => hQ he tmps' w' k' ow' g1 g2.tick) (fun x he v tmps' w' k' ow' done' g1 g2 g3 => hP x he v tmps' w' k' ow' g1 g2.tick g3)
  | true =>
    simp only [Bool.true_eq_false, false_or] at hok
    obtain ⟨hlex, hfd⟩ := hok
    unfold Region.lexB at hlex
    simp only [Bool.and_eq_true] at hlex
    have hb : Below w.heap.size w { w with drawn := w.drawn + 1 } := ⟨rfl, rfl, rfl, Nat.le_refl _, fun _ _ => rfl⟩
    have h2 := (hs.grow hb).more (done' := fun j => (Array.replicate ops.size false).getD j true = true) (fun _ h => h.elim)
    have hd' : ∀ (j : Nat) (o : Oper), ops[j]? = some o → dstOk N o = true := fun j o ho => hdst o (by simpa using Array.mem_of_getElem? ho)
    unfold evR at h
    simp only [Bool.true_and] at h
    split at h
    · rename_i hsp
      unfold evSp at h
      split at h
      · rename_i hmk
        split at h
        rotate_left
        · cases h
        rename_i o r hl
        split at h
        rotate_left
        · cases h
        rename_i s1 hm1
        obtain rfl := evOps_calm _ _ _ _ _ h
        rw [hl] at hmk
        simp only [mkFirst] at hmk
        have hsz : ops.size = r.length + 1 := by rw [← Array.length_toList, hl]; rfl
        have h0 : ops[0]? = some o := by
          have : ops.toList[0]? = some o := by rw [hl]; rfl
          simpa using this
        have hlex2 := hlex.2
        rw [hsz] at hlex2
        unfold Region.lexFrom at hlex2
        simp only [Bool.and_eq_true] at hlex2
        obtain ⟨⟨hr, hfr⟩, hB'⟩ := hlex2
        refine wp_region_any hm ?_
        have h1 := anyA_lex (P := P) (T := TT.of P) (E := E) (Q := fun t => t = s') r 1 ((Array.replicate (r.length + 1) false).setIfInBounds 0 true) s1 s' (fun j => by
          have : ops.toList[1 + j]? = r[j]? := by rw [hl, Nat.add_comm, List.getElem?_cons_succ]
          rw [← this]; simp) (by simpa using hB') h rfl
        rw [hsz] at h2 ⊢
        exact mk_sound (P := P) horc hd' (Q := Q) (Qs := fun t => t = s') (k0 := k) (fun t tmps' w' k' ow' done' g1 g2 g3 => by subst g2; exact hQ rfl tmps' w' k' ow' g1 g3.tick) h0 hmk r.length _ s s1 _ tmps k ow (Know.le_refl k) h2 (Region.free_spec h0 hfr) (by simpa using hr) hm1 h1
      · rename_i hmk
        have hst : stLast ops.toList = true := by
          unfold spB at hsp
          simp only [Bool.or_eq_true] at hsp
          rcases hsp with h' | h'
          · exact absurd h' hmk
          · exact h'
        have hfeed : feedsB ops = true := by
          rcases hfd with h' | h'
          · rw [hst] at h'; cases h'
          · exact h'
        have hdc : Dc ops (Array.replicate ops.size false) := fun k o hk hl => by
          have hks : k < ops.size := (Array.getElem?_eq_some_iff.1 hk).1
          simp [hks] at hl
        obtain ⟨rfl, h1⟩ := anyB_lex (P := P) (T := TT.of P) (E := E) (Q := fun t => t = s') hfeed ops.toList 0 (Array.replicate ops.size false) s s' q (by simp) (by simp) hdc (by simpa using hlex.2) h rfl
        refine wp_region_any hm ?_
        have h3 := anyB_sound (P := P) horc hd' (Q := Q) (Qs := fun t => t = s') (k0 := k) (fun t tmps' w' k' ow' done' g1 g2 g3 => by subst g2; exact hQ rfl tmps' w' k' ow' g1 g3.tick) _ _ s _ tmps k ow (Know.le_refl k) h2 h1
        simpa using h3
    · obtain rfl := evOps_calm _ _ _ _ _ h
      refine wp_region_any hm ?_
      have h1 := anyA_lex (P := P) (T := TT.of P) (E := E) (Q := fun t => t = s') ops.toList 0 (Array.replicate ops.size false) s s' (by simp) (by simpa using hlex.2) h rfl
      have h3 := anyA_sound (P := P) horc hd' (Q := Q) (Qs := fun t => t = s') (k0 := k) (fun t tmps' w' k' ow' done' g1 g2 g3 => by subst g2; exact hQ rfl tmps' w' k' ow' g1 g3.tick) _ _ s _ tmps k ow (Know.le_refl k) h2 h1
      simpa using h3
end
end Go.Pe
namespace Go.Pe
open Go.RowKit

/-- How code ends. -/
def Ex.is (k : Know) (ow : Own) : Ex → Exit → Prop
  | .normal, e => e = .normal
  | .exit i, e => e = .exit i
  | .ret, e => e = .ret
  | .pan x, e => ∃ v, e = .panic [{ v := v, recovered := false }] ∧ RepX k ow x v

section
variable {P : Program} {M0 : Base} {k : Know} {ow : Own} {w0 w : World} {N : Nat} {s : S} {tmps : Array Value}

def resF (tmps : Array Value) : ResultVar → Sem Value
  | .tmp t => pure (tmps.getD t undef)
  | .cell a t => do loadVar t (← asAddr (tmps.getD a undef))

/-- The wp; of a loop: so many rounds. -/
def WP (P : Program) (n : Nat) (Q : Exit → Act → World → Prop) (a : Act) (w : World) : Code → Prop
  | .loop b => Code.rounds P b Q n a w
  | c => c.wp P Q a w

theorem WP.wp {P : Program} {n : Nat} {Q : Exit → Act → World → Prop} {a : Act} {w : World} {c : Code} (h : WP P n Q a w c) : c.wp P Q a w := by
  cases c with
  | loop b => exact wp_loop_rounds n h
  | _ => exact h

/-- What the evaluator says of code. -/
def CodeSound (P : Program) (G : GP) (pr : Pr) (n : Nat) : Prop :=
  ∀ (M0 : Base) (w0 : World) (N : Nat) (c : Code) (s : S) (e : Ex) (s' : S), M0.G = G → evC P (TT.of P) pr n c s = some (e, s') → codeOk N c = true →
    ∀ (k : Know) (ow : Own) (w : World) (tmps : Array Value) (Q : Exit → Act → World → Prop), Sim M0 k ow (fun _ => False) w0 w N s tmps →
      (∀ x tmps' w' k' ow', k.le k' → Sim M0 k' ow' (fun _ => False) w0 w' N s' tmps' → e.is k' ow' x → Q x ⟨tmps', []⟩ w') → WP P n Q ⟨tmps, []⟩ w c

/-- Results, as slots. -/
theorem resXs_sound (hs : Sim M0 k ow (fun _ => False) w0 w N s tmps) : ∀ (l : List ResultVar) (us : List X), resXs (TT.of P) s l = some us →
    ∃ vs : List Value, (l.mapM (resF tmps)).run P w = .ok vs w ∧ RepXs k ow us vs
  | [], us, h => by
    simp only [resXs, Option.some.injEq] at h
    subst h
    exact ⟨[], by simp, by simp [RepXs]⟩
  | .tmp t :: l, us, h => by
    simp only [resXs, Option.map_eq_some_iff] at h
    obtain ⟨q, hq, rfl⟩ := h
    obtain ⟨vs, h1, h2⟩ := resXs_sound hs l q hq
    refine ⟨tmps.getD t undef :: vs, by simp only [List.mapM_cons, resF, Sem.run_bind, Sem.run_pure, Result.andThen_ok, h1], ?_⟩
    simp only [RepXs]
    exact ⟨_, _, rfl, hs.fr t, h2⟩
  | .cell a t :: l, us, h => by
    simp only [resXs] at h
    split at h
    · rename_i x e q hl hq
      simp only [Option.some.injEq] at h
      subst h
      obtain ⟨vs, h1, h2⟩ := resXs_sound hs l q hq
      obtain ⟨_, u, hr, hx⟩ := load_sound hs.toHp hl (hs.fr a)
      have hadr : ∃ ad, tmps.getD a undef = .pointer (some ad) ∧ (loadVar t ad).run P w = .ok u w := by
        simp only [Instr.loadAt, Sem.run_bind] at hr
        cases hv : tmps.getD a undef with
        | pointer p =>
          cases p with
          | none => rw [hv] at hr; simp [Instr.sureAddr] at hr
          | some ad => rw [hv] at hr; simp [Instr.sureAddr] at hr; exact ⟨ad, rfl, hr⟩
        | _ => rw [hv] at hr; simp [Instr.sureAddr] at hr
      obtain ⟨ad, hv, hr⟩ := hadr
      refine ⟨u :: vs, by simp only [List.mapM_cons, resF, hv, asAddr, Sem.run_bind, Sem.run_pure, Result.andThen_ok, hr, h1], ?_⟩
      simp only [RepXs]
      exact ⟨_, _, rfl, hx, h2⟩
    · cases h

theorem run_results {fn : Func} {us : List Value} (h1 : (fn.results.toList.mapM (resF tmps)).run P w = .ok us w) : (results fn tmps).run P w = .ok (retOf us) w := by
  have hres : results fn tmps = (do
      let vs ← fn.results.mapM (resF tmps)
      pure (if h : vs.size = 1 then vs[0] else .tuple vs)) := by
    unfold results
    congr 1
  rw [hres, Array.mapM_eq_mapM_toList]
  simp only [Sem.run_bind, Sem.run_map, h1, Result.andThen_ok, Sem.run_pure]
  congr 1
  match us with
  | [] => rfl
  | [u] => rfl
  | u :: u' :: q => rfl


/-- The end of a call. -/
theorem leave_sound {objs : List Ob} (h : Hp M0 k ow w0 w objs) {m : Nat} {pan : Bool} {rs : List X} {us : List Value} {an : An} (hl : leave m pan rs objs = some an) (hrs : RepXs k ow rs us) :
    ∃ k' ow', an.pan = pan ∧ Hp M0 k' ow' w0 w an.obs ∧ k'.m = k.m ∧ m ≤ an.obs.length ∧ (∀ r, r < m → k'.μ r = k.μ r) ∧ (∀ t p, ow' t = some p → t.older 1 fun _ => False) ∧ (∀ r off p, ow' (.cell r off) = some p → r < an.obs.length) ∧ RepXs k' ow' an.rs us := by
  unfold leave at hl
  simp only [Option.map_eq_some_iff] at hl
  obtain ⟨obs, hp, rfl⟩ := hl
  have hn1 := reach_nodup objs 999 (X.refsL rs ++ ((objs.take m).map Ob.refs).flatten) (List.range m) List.nodup_range
  obtain ⟨q, hq⟩ := reach_front objs 999 (X.refsL rs ++ ((objs.take m).map Ob.refs).flatten) (List.range m)
  have hn2 := (nub_nodup (X.toksL rs) [] List.nodup_nil).filter (fun t => match t with
    | .nm .. => true
    | .cell r _ => !decide (r ∈ reach objs 999 (X.refsL rs ++ ((objs.take m).map Ob.refs).flatten) (List.range m)))
  refine ⟨_, _, rfl, h.re hn1 hn2 hp h.good h.below (fun _ _ h => h) h.m0, rfl, ?_, fun r hr => ?_, fun t p ht => reO_older ht, fun i off p ht => ?_, RepXs.tr ren_in _ _ hrs⟩
  · rw [pickObs_len hp, hq]
    simp
  · simp only [reK]
    rw [hq, List.getElem?_append_left (by simpa using hr)]
    simp [hr]
  · rw [pickObs_len hp]
    exact reO_cells ht

theorem call_of_code {G : GP} {pr : Pr} {n : Nat} (h : CodeSound P G pr n) {f : Nat} {xs : List X} {obs : List Ob} {an : An} (hc : callOf P (TT.of P) (evC P (TT.of P) pr n) f xs obs = some an) : Sound P G f xs obs an := by
  intro fn hf k ow w vs hhp hold hcl hvs
  unfold callOf at hc
  split at hc
  rotate_left
  · cases hc
  rename_i hok
  obtain ⟨hok, har⟩ := hok
  have hb : ∃ b, fn.body = some b ∧ codeOk fn.ntmps b = true ∧ bodyOf P f = b ∧ arity P f = fn.ntmps ∧ resVars P f = fn.results.toList := by
    unfold fnOk at hok
    simp only [hf, Bool.and_eq_true, Option.isSome_iff_exists] at hok
    obtain ⟨⟨b, hb⟩, h2⟩ := hok
    rw [hb] at h2
    exact ⟨b, hb, h2, by simp [bodyOf, hf, hb], by simp [arity, hf], by simp [resVars, hf]⟩
  obtain ⟨b, hb, hcode, e1, e2, e3⟩ := hb
  have hvl : vs.length ≤ fn.ntmps := by rw [hvs.length, ← e2]; exact har
  have hsim : Sim ⟨G, k.m, Given k ow⟩ k ow (fun _ => False) w w fn.ntmps (initS xs obs) (vs.toArray ++ Array.replicate (fn.ntmps - vs.toArray.size) undef) := { hhp with
    size := by simp; omega
    fresh := hold
    cells := hcl
    fr := fun j => by
      simp only [initS]
      have hg : (vs.toArray ++ Array.replicate (fn.ntmps - vs.toArray.size) undef).getD j undef = vs.getD j undef := by
        rw [Array.getD_eq_getD_getElem?, List.getD_eq_getElem?_getD]
        rcases Nat.lt_or_ge j vs.length with g | g
        · rw [Array.getElem?_append_left (by simpa using g)]
          simp
        · rw [Array.getElem?_append_right (by simpa using g)]
          rw [List.getElem?_eq_none g]
          simp only [List.size_toArray, Array.getElem?_replicate]
          split <;> rfl
      rw [hg]
      cases hc : xs[j]? with
      | none =>
        have : vs[j]? = none := by
          rw [List.getElem?_eq_none_iff] at hc ⊢
          rw [hvs.length]; exact hc
        rw [List.getD_eq_getElem?_getD, List.getD_eq_getElem?_getD, this, hc]
        simp [RepX, Rep]
      | some c =>
        obtain ⟨v, hv, hr⟩ := hvs.get j c hc
        rw [List.getD_eq_getElem?_getD, List.getD_eq_getElem?_getD, hv, hc]
        exact hr }
  -- what is told behind the call
  have fin : ∀ (pan : Bool) (rs : List X) (us : List Value) (s : S) (tmps' : Array Value) (w' : World) (k' : Know) (ow' : Own), leave obs.length pan rs s.objs = some an → k.le k' → Sim ⟨G, k.m, Given k ow⟩ k' ow' (fun _ => False) w w' fn.ntmps s tmps' → RepXs k' ow' rs us →
      ∀ en, EndsAs pan us en → ∃ k' ow' us, EndsAs an.pan us en ∧ Hp ⟨G, k.m, Given k ow⟩ k' ow' w w' an.obs ∧ k.m.le k'.m ∧ obs.length ≤ an.obs.length ∧ (∀ r, r < obs.length → k'.μ r = k.μ r) ∧
        (∀ t p, ow' t = some p → t.older 1 fun _ => False) ∧ (∀ r off p, ow' (.cell r off) = some p → r < an.obs.length) ∧ RepXs k' ow' an.rs us := by
    intro pan rs us s tmps' w' k' ow' hl hle hs' hrs en hen
    obtain ⟨k2, ow2, g1, g2, g3, g4, g5, g6, g7, g8⟩ := leave_sound hs'.toHp hl hrs
    refine ⟨k2, ow2, us, by rw [g1]; exact hen, g2, by rw [g3]; exact hle.1, g4, fun r hr => ?_, g6, g7, g8⟩
    rw [g5 r hr]
    obtain ⟨b, hb, _⟩ := hhp.obj r _ (List.getElem?_eq_getElem hr)
    rw [hb]
    exact hle.2 _ _ hb
  have key : ∀ e s, evC P (TT.of P) pr n b (initS xs obs) = some (e, s) → ((e = .normal ∨ e = .ret) ∧ ((resXs (TT.of P) s fn.results.toList).bind fun rs => leave obs.length false rs s.objs) = some an) ∨ (∃ x, e = .pan x ∧ leave obs.length true [x] s.objs = some an) →
      Calls P f vs.toArray w fun e w' => ∃ k' ow' us, EndsAs an.pan us e ∧ Hp ⟨G, k.m, Given k ow⟩ k' ow' w w' an.obs ∧ k.m.le k'.m ∧ obs.length ≤ an.obs.length ∧ (∀ r, r < obs.length → k'.μ r = k.μ r) ∧
        (∀ t p, ow' t = some p → t.older 1 fun _ => False) ∧ (∀ r off p, ow' (.cell r off) = some p → r < an.obs.length) ∧ RepXs k' ow' an.rs us := by
    intro e s hev hres
    refine calls_of_wp hf hb ?_
    refine (h ⟨G, k.m, Given k ow⟩ w fn.ntmps b (initS xs obs) e s rfl hev hcode _ _ w _ _ hsim fun x' tmps' w' k' ow' g1 g2 g3 => ?_).wp
    rcases hres with ⟨he, hres⟩ | ⟨x, rfl, hres⟩
    · simp only [Option.bind_eq_some_iff] at hres
      obtain ⟨rs, hrs, hl⟩ := hres
      obtain ⟨us, h1, h2⟩ := resXs_sound (P := P) g2 fn.results.toList rs hrs
      have hrun := run_results h1
      have hpost := fin false rs us s tmps' w' k' ow' hl g1 g2 h2 (.returned (retOf us)) rfl
      rcases he with rfl | rfl
      · simp only [Ex.is] at g3
        subst g3
        exact ⟨rfl, _, hrun, hpost⟩
      · simp only [Ex.is] at g3
        subst g3
        exact ⟨rfl, _, hrun, hpost⟩
    · simp only [Ex.is] at g3
      obtain ⟨v, rfl, hv⟩ := g3
      exact ⟨rfl, fin true [x] [v] s tmps' w' k' ow' hres g1 g2 (by simp [RepXs, hv]) _ ⟨v, rfl, rfl⟩⟩
  rw [e1, e3] at hc
  split at hc
  · rename_i s hev; exact key _ s hev (.inl ⟨.inl rfl, hc⟩)
  · rename_i s hev; exact key _ s hev (.inl ⟨.inr rfl, hc⟩)
  · rename_i x s hev; exact key _ s hev (.inr ⟨x, rfl, hc⟩)
  · cases hc

/-- What is given is so. -/
structure PrSound (P : Program) (G : GP) (pr : Pr) : Prop where
  prim : ∀ f xs obs an, pr.prim f xs obs = some an → Sound P G f xs obs an

theorem en_of_code {G : GP} {pr : Pr} (hpr : PrSound P G pr) {n : Nat} (h : CodeSound P G pr n) : EnSound P G (enOf P (TT.of P) pr (evC P (TT.of P) pr n)) where
  orc := by
    intro f xs obs an h'
    simp only [enOf, orcOf] at h'
    split at h'
    · rename_i r' hp
      simp only [Option.some.injEq] at h'
      subst h'
      exact hpr.prim f xs obs r' hp
    · exact call_of_code h h'

theorem code_sound (hm : P.follows .mixedOrders = true) {G : GP} {pr : Pr} (hpr : PrSound P G pr) : ∀ n, CodeSound P G pr n
  | 0 => by intro M0 w0 N c s e s' _ h; simp [evC] at h
  | n + 1 => by
    have ih := code_sound hm hpr n
    have horc := en_of_code hpr ih
    intro M0 w0 N c s e s' hG h hok k ow w tmps Q hs hQ
    unfold evC at h
    cases c with
    | skip =>
      simp only [Option.some.injEq, Prod.mk.injEq] at h
      obtain ⟨rfl, rfl⟩ := h
      exact wp_skip (hQ _ tmps w k ow (Know.le_refl k) hs rfl)
    | ret =>
      simp only [Option.some.injEq, Prod.mk.injEq] at h
      obtain ⟨rfl, rfl⟩ := h
      exact wp_ret (hQ _ tmps w k ow (Know.le_refl k) hs rfl)
    | exit i =>
      simp only [Option.some.injEq, Prod.mk.injEq] at h
      obtain ⟨rfl, rfl⟩ := h
      exact wp_exit (hQ _ tmps w k ow (Know.le_refl k) hs rfl)
    | seq a b =>
      simp only [codeOk, Bool.and_eq_true] at hok
      refine wp_seq ?_
      simp only at h
      split at h
      · rename_i s1 h1
        refine (ih M0 w0 N a s _ s1 hG h1 hok.1 k ow w tmps _ hs fun x tmps' w' k' ow' g1 g2 g3 => ?_).wp
        simp only [Ex.is] at g3
        subst g3
        exact (ih M0 w0 N b s1 e s' hG h hok.2 k' ow' w' tmps' Q g2 fun x tmps'' w'' k'' ow'' g3 g4 g5 => hQ x tmps'' w'' k'' ow'' (Know.le_trans g1 g3) g4 g5).wp
      · rename_i hne
        refine (ih M0 w0 N a s e s' hG h hok.1 k ow w tmps _ hs fun x tmps' w' k' ow' g1 g2 g3 => ?_).wp
        have hx := hQ x tmps' w' k' ow' g1 g2 g3
        cases e with
        | normal => exact (hne s' h).elim
        | exit i => simp only [Ex.is] at g3; subst g3; exact hx
        | ret => simp only [Ex.is] at g3; subst g3; exact hx
        | pan x => simp only [Ex.is] at g3; obtain ⟨v, rfl, _⟩ := g3; exact hx
    | block i c =>
      refine wp_block ?_
      simp only at h
      split at h
      · rename_i j s1 h1
        simp only [Option.some.injEq, Prod.mk.injEq] at h
        obtain ⟨rfl, rfl⟩ := h
        refine (ih M0 w0 N c s _ s1 hG h1 hok k ow w tmps _ hs fun x tmps' w' k' ow' g1 g2 g3 => ?_).wp
        simp only [Ex.is] at g3
        subst g3
        simp only [Exit.inBlock]
        split
        · rename_i e; exact hQ _ tmps' w' k' ow' g1 g2 (by rw [if_pos e]; rfl)
        · rename_i e; exact hQ _ tmps' w' k' ow' g1 g2 (by rw [if_neg e]; rfl)
      · rename_i hne
        refine (ih M0 w0 N c s e s' hG h hok k ow w tmps _ hs fun x tmps' w' k' ow' g1 g2 g3 => ?_).wp
        have hx := hQ x tmps' w' k' ow' g1 g2 g3
        cases e with
        | normal => simp only [Ex.is] at g3; subst g3; exact hx
        | exit i => exact (hne i s' h).elim
        | ret => simp only [Ex.is] at g3; subst g3; exact hx
        | pan x => simp only [Ex.is] at g3; obtain ⟨v, rfl, _⟩ := g3; exact hx
    | cond c a b =>
      simp only [codeOk, Bool.and_eq_true] at hok
      simp only at h
      split at h
      · rename_i hc
        exact wp_cond_true (lit_bool hc (hs.ev c)) (ih M0 w0 N a s e s' hG h hok.1 k ow w tmps Q hs hQ).wp
      · rename_i hc
        exact wp_cond_false (lit_bool hc (hs.ev c)) (ih M0 w0 N b s e s' hG h hok.2 k ow w tmps Q hs hQ).wp
      · cases h
    | loop c =>
      simp only at h
      split at h
      · rename_i s1 h1
        refine (ih M0 w0 N c s _ s1 hG h1 hok k ow w tmps _ hs fun x tmps' w' k' ow' g1 g2 g3 => ?_).wp
        simp only [Ex.is] at g3
        subst g3
        exact ih M0 w0 N (.loop c) s1 e s' hG h hok k' ow' w' tmps' Q g2 fun x tmps'' w'' k'' ow'' g3 g4 g5 => hQ x tmps'' w'' k'' ow'' (Know.le_trans g1 g3) g4 g5
      · rename_i hne
        refine (ih M0 w0 N c s e s' hG h hok k ow w tmps _ hs fun x tmps' w' k' ow' g1 g2 g3 => ?_).wp
        have hx := hQ x tmps' w' k' ow' g1 g2 g3
        cases e with
        | normal => exact (hne s' h).elim
        | exit i => simp only [Ex.is] at g3; subst g3; exact hx
        | ret => simp only [Ex.is] at g3; subst g3; exact hx
        | pan x => simp only [Ex.is] at g3; obtain ⟨v, rfl, _⟩ := g3; exact hx
    | region id ops draw =>
      subst hG
      simp only [codeOk] at hok
      simp only at h
      split at h
      · rename_i s1 h1
        simp only [Option.some.injEq, Prod.mk.injEq] at h
        obtain ⟨rfl, rfl⟩ := h
        exact region_sound hm horc hok hs h1 (fun _ tmps' w' k' ow' g1 g2 => hQ _ tmps' w' k' ow' g1 g2 rfl) (fun x hx => by cases hx)
      · rename_i x s1 h1
        simp only [Option.some.injEq, Prod.mk.injEq] at h
        obtain ⟨rfl, rfl⟩ := h
        exact region_sound hm horc hok hs h1 (fun hx => by cases hx) (fun y hy v tmps' w' k' ow' g1 g2 g3 => by cases hy; exact hQ _ tmps' w' k' ow' g1 g2 ⟨v, rfl, g3⟩)
      · cases h
    | _ => simp at h
end
end Go.Pe

/-
  An abstract machine for Go code over plain data: a region that draws its order: the order of the text serves. Conditions: none.
-/
import Derived.Test.YtiepbejeiijpmaaDoorPe9
namespace Go.Pe
open Go.RowKit

theorem drops_eq (t : Tk) : ∀ xs : List X, X.drops t xs = xs.map (X.drop t)
  | [] => rfl
  | x :: r => by simp [X.drops, drops_eq t r]

theorem rd_drop (t : Tk) : ∀ x : X, (x.drop t).rd = x.rd :=
  X.rec (motive_1 := fun x => (x.drop t).rd = x.rd) (motive_2 := fun xs => X.rds (X.drops t xs) = X.rds xs)
    (fun _ => rfl) rfl (fun t' e z cs n => by simp only [X.drop]; split <;> simp [X.rd]) (fun _ _ => rfl) (fun _ => rfl) (fun _ _ _ => rfl)
    (fun xs ih => by simp [X.drop, X.rd, ih]) (fun _ _ => rfl) rfl (fun x xs ih1 ih2 => by simp [X.drops, X.rds, ih1, ih2])

theorem rds_drop (t : Tk) : ∀ xs : List X, X.rds (xs.map (X.drop t)) = X.rds xs
  | [] => rfl
  | x :: r => by simp [X.rds, rd_drop, rds_drop t r]

theorem drop_drop (t u : Tk) : ∀ x : X, (x.drop t).drop u = (x.drop u).drop t :=
  X.rec (motive_1 := fun x => (x.drop t).drop u = (x.drop u).drop t) (motive_2 := fun xs => X.drops u (X.drops t xs) = X.drops t (X.drops u xs))
    (fun _ => rfl) rfl
    (fun t' e z cs n => by
      by_cases h1 : t' = t
      · by_cases h2 : t' = u
        · subst h1; subst h2; simp [X.drop]
        · subst h1; simp [X.drop, h2]
      · by_cases h2 : t' = u
        · subst h2; simp [X.drop, h1]
        · simp [X.drop, h1, h2])
    (fun _ _ => rfl) (fun _ => rfl) (fun f xs ih => by simp [X.drop, ih])
    (fun xs ih => by simp [X.drop, ih]) (fun xs ih => by simp [X.drop, ih]) rfl (fun x xs ih1 ih2 => by simp [X.drops, ih1, ih2])

theorem own_drop (t t' : Tk) (e z : Nat) (cs : List C) (n : Nat) : (X.own t' e z cs n).drop t = .of (.sl cs n) ∨ (X.own t' e z cs n).drop t = .own t' e z cs n := by
  simp only [X.drop]
  split
  · exact .inl rfl
  · exact .inr rfl
theorem of_drop (t : Tk) (o : Option C) : (o.map X.of).map (X.drop t) = o.map X.of := by cases o <;> rfl

theorem litInt_drop (t : Tk) (x : X) : litInt (x.drop t) = litInt x := by
  cases x with
  | own t' e z cs n => rcases own_drop t t' e z cs n with h | h <;> rw [h] <;> rfl
  | _ => rfl
theorem litBool_drop (t : Tk) (x : X) : litBool (x.drop t) = litBool x := by
  cases x with
  | own t' e z cs n => rcases own_drop t t' e z cs n with h | h <;> rw [h] <;> rfl
  | _ => rfl
theorem asSl_drop (t : Tk) (x : X) : asSl (x.drop t) = asSl x := by
  cases x with
  | own t' e z cs n => rcases own_drop t t' e z cs n with h | h <;> rw [h] <;> rfl
  | _ => rfl
theorem cellsX_drop (t : Tk) (x : X) : cellsX (x.drop t) = (cellsX x).map (List.map (X.drop t)) := by
  cases x with
  | own t' e z cs n => simp only [X.drop]; split <;> simp [cellsX, X.drop, *]
  | of c => cases c <;> simp [X.drop, cellsX]
  | _ => simp [X.drop, cellsX, drops_eq]
theorem ofVal_drop (t : Tk) (v : Value) : (ofVal v).drop t = ofVal v := by
  unfold ofVal
  split <;> rfl

theorem pieceX_drop (T : TT) (t : Tk) (ty : Nat) (xs : List X) : pieceX T ty (xs.map (X.drop t)) = (pieceX T ty xs).map (X.drop t) := by
  unfold pieceX
  split
  · rfl
  · rename_i d _
    simp only [List.length_map]
    split
    · split
      · simp [X.drop, drops_eq, List.map_take]
      · cases xs <;> simp
    · rfl

theorem ev_drop (t : Tk) (s : S) (x : Operand) : (s.drop (some t)).ev x = (s.ev x).drop t := by
  cases x <;> simp [S.ev, S.drop, X.drop, ofVal_drop]

theorem rdAll_drop (t : Tk) (s : S) : ∀ l, rdAll (s.drop (some t)).ev l = rdAll s.ev l
  | [] => rfl
  | x :: r => by simp [rdAll, ev_drop, rd_drop, rdAll_drop t s r]

theorem partsX_drop (t : Tk) (s : S) : ∀ l, partsX (s.drop (some t)).ev l = (partsX s.ev l).map (List.map fun p => (p.1, p.2.map (X.drop t)))
  | [] => rfl
  | (i, x) :: r => by
    simp only [partsX, ev_drop, cellsX_drop, partsX_drop t s r]
    cases cellsX (s.ev x) <;> cases partsX s.ev r <;> simp

theorem fillX_drop (place : Nat → Option (Nat × Nat)) (t : Tk) : ∀ (qs : List (Nat × List X)) (cells : List X), fillX place (cells.map (X.drop t)) (qs.map fun p => (p.1, p.2.map (X.drop t))) = (fillX place cells qs).map (List.map (X.drop t))
  | [], cells => rfl
  | (i, xs) :: r, cells => by
    simp only [List.map_cons, fillX]
    cases place i with
    | none => rfl
    | some p =>
      obtain ⟨off, size⟩ := p
      simp only [List.length_map]
      split
      · rw [← fillX_drop place t r]
        simp [List.map_take, List.map_drop]
      · rfl

/-- What an operation yields when a right has been given up before. -/
def mapD (t : Tk) : Out → Out
  | none => none
  | some (x, u) => if u = some t then none else some (x.drop t, u)

theorem mapD_none (t : Tk) : mapD t none = none := rfl
theorem mapD_out (t : Tk) (x : X) : mapD t (out x) = out (x.drop t) := by simp [mapD, out]
theorem mapD_outO (t : Tk) (x : Option X) : mapD t (outO x) = outO (x.map (X.drop t)) := by cases x <;> simp [mapD, outO]
theorem mapD_ite (t : Tk) (c : Prop) [Decidable c] (a b : Out) : mapD t (if c then a else b) = if c then mapD t a else mapD t b := by split <;> rfl

theorem zeroX_drop (t : Tk) (d : TD) : (zeroX d).map (X.drop t) = zeroX d := by
  simp [zeroX, ofVal_drop]

theorem objs_drop (t : Tk) (s : S) (r : Nat) : (s.drop (some t)).objs[r]? = (s.objs[r]?).map (Ob.drop t) := by simp [S.drop]

theorem loadX_drop (T : TT) (t : Tk) (s : S) (ty : Nat) (x : X) : loadX T (s.drop (some t)).objs ty (x.drop t) = mapD t (loadX T s.objs ty x) := by
  cases x with
  | ptr r off =>
    simp only [X.drop, loadX, objs_drop]
    cases s.objs[r]? with
    | none => rfl
    | some ob =>
      cases ob with
      | var ty xs => simp only [Option.map_some, Ob.drop, drops_eq, ← List.map_drop, pieceX_drop, mapD_outO]
      | map es => rfl
  | of c =>
    cases c <;> simp only [X.drop, loadX, mapD_none, mapD_outO, of_drop]
  | own t' e z cs n => rcases own_drop t t' e z cs n with h | h <;> rw [h] <;> rfl
  | _ => rfl

theorem fieldAddrX_drop (T : TT) (t : Tk) (ty f : Nat) (x : X) : fieldAddrX T ty f (x.drop t) = mapD t (fieldAddrX T ty f x) := by
  unfold fieldAddrX
  cases fieldOff T ty f with
  | none => rfl
  | some p =>
    obtain ⟨o, z⟩ := p
    simp only [mapD_ite, mapD_none]
    split
    · cases x with
      | of c => cases c <;> simp [X.drop, mapD, out]
      | own t' e z cs n => rcases own_drop t t' e z cs n with h | h <;> rw [h] <;> rfl
      | _ => simp [X.drop, mapD, out]
    · rfl

theorem fieldX_drop (T : TT) (t : Tk) (ty f : Nat) (x : X) : fieldX T ty f (x.drop t) = mapD t (fieldX T ty f x) := by
  unfold fieldX
  split
  · split
    · cases x with
      | of c =>
        cases c <;> simp only [X.drop, mapD_none, mapD_outO, of_drop]
      | own t' e z cs n => rcases own_drop t t' e z cs n with h | h <;> rw [h] <;> rfl
      | agg xs => simp only [X.drop, drops_eq, ← List.map_drop, pieceX_drop, mapD_outO]
      | _ => rfl
    · rfl
  · rfl

theorem indexAddrX_drop (T : TT) (t : Tk) (ty : Nat) (x i : X) : indexAddrX T ty (x.drop t) (i.drop t) = mapD t (indexAddrX T ty x i) := by
  unfold indexAddrX
  rw [litInt_drop]
  split
  · rfl
  · split
    · rw [asSl_drop]
      split
      · simp only [mapD_ite, mapD_none, mapD_out, X.drop]
      · rfl
    · split
      · simp only [mapD_ite, mapD_none]
        split
        · cases x with
          | of c => cases c <;> simp [X.drop, mapD, out]
          | own t' e z cs n => rcases own_drop t t' e z cs n with h | h <;> rw [h] <;> rfl
          | _ => simp [X.drop, mapD, out]
        · rfl
      · rfl
    · rfl

theorem indexX_drop (T : TT) (t : Tk) (ty : Nat) (x i : X) : indexX T ty (x.drop t) (i.drop t) = mapD t (indexX T ty x i) := by
  unfold indexX
  rw [litInt_drop]
  split
  · rfl
  · cases x with
    | of c =>
      cases c with
      | lit v =>
        cases v with
        | string st =>
          simp only [X.drop]
          split
          · simp [mapD, out, X.drop]
          · rfl
        | _ => rfl
      | agg cs =>
        simp only [X.drop]
        split
        · split
          · rename_i n e _ _ _ _ _ _ _ d _
            simp only [mapD_ite, mapD_none, mapD_outO, of_drop]
          · rfl
        · rfl
      | _ => rfl
    | own t' e z cs n => rcases own_drop t t' e z cs n with h | h <;> rw [h] <;> rfl
    | agg xs =>
      simp only [X.drop, drops_eq]
      split
      · split
        · simp only [mapD_ite, mapD_none, mapD_outO, ← List.map_drop, pieceX_drop]
        · rfl
      · rfl
    | _ => rfl

theorem bndX_drop (t : Tk) (d : Int) (x : Option X) : bndX d (x.map (X.drop t)) = bndX d x := by
  cases x <;> simp [bndX, litInt_drop]

theorem sliceX_drop (T : TT) (t : Tk) (ty : Nat) (x : X) (lo hi : Option X) : sliceX T ty (x.drop t) (lo.map (X.drop t)) (hi.map (X.drop t)) = mapD t (sliceX T ty x lo hi) := by
  have slice : ∀ y : X, (∀ s, y ≠ .of (.lit (.string s))) → sliceX T ty y lo hi = match elemOf T ty, asSl y with
    | some (_, d), some (cs, n) =>
      match bndX 0 lo, bndX (n : Int) hi with
      | some l, some h => if 0 ≤ l ∧ l ≤ h ∧ h ≤ (n : Int) ∧ cs.length = n * d.size then out (.of (.sl ((cs.drop (l.toNat * d.size)).take ((h.toNat - l.toNat) * d.size)) (h.toNat - l.toNat))) else none
      | _, _ => none
    | _, _ => none := by
    intro y hy
    unfold sliceX
    split
    · rename_i st; exact (hy st rfl).elim
    · rfl
  have slice' : ∀ y : X, (∀ s, y ≠ .of (.lit (.string s))) → sliceX T ty y (lo.map (X.drop t)) (hi.map (X.drop t)) = match elemOf T ty, asSl y with
    | some (_, d), some (cs, n) =>
      match bndX 0 lo, bndX (n : Int) hi with
      | some l, some h => if 0 ≤ l ∧ l ≤ h ∧ h ≤ (n : Int) ∧ cs.length = n * d.size then out (.of (.sl ((cs.drop (l.toNat * d.size)).take ((h.toNat - l.toNat) * d.size)) (h.toNat - l.toNat))) else none
      | _, _ => none
    | _, _ => none := by
    intro y hy
    unfold sliceX
    split
    · rename_i st; exact (hy st rfl).elim
    · simp only [bndX_drop]
      rfl
  have fin : (match elemOf T ty, asSl x with
    | some (_, d), some (cs, n) =>
      match bndX 0 lo, bndX (n : Int) hi with
      | some l, some h => if 0 ≤ l ∧ l ≤ h ∧ h ≤ (n : Int) ∧ cs.length = n * d.size then out (.of (.sl ((cs.drop (l.toNat * d.size)).take ((h.toNat - l.toNat) * d.size)) (h.toNat - l.toNat))) else none
      | _, _ => none
    | _, _ => none) = mapD t (match elemOf T ty, asSl x with
    | some (_, d), some (cs, n) =>
      match bndX 0 lo, bndX (n : Int) hi with
      | some l, some h => if 0 ≤ l ∧ l ≤ h ∧ h ≤ (n : Int) ∧ cs.length = n * d.size then out (.of (.sl ((cs.drop (l.toNat * d.size)).take ((h.toNat - l.toNat) * d.size)) (h.toNat - l.toNat))) else none
      | _, _ => none
    | _, _ => none) := by
    split
    · split
      · simp only [mapD_ite, mapD_none, mapD_out, X.drop]
      · rfl
    · rfl
  by_cases hstr : ∃ st, x = .of (.lit (.string st))
  · obtain ⟨st, rfl⟩ := hstr
    simp only [X.drop, sliceX, bndX_drop]
    split
    · split
      · simp only [mapD_ite, mapD_none, mapD_out, X.drop]
      · rfl
    · rfl
  · have h1 : ∀ s, x ≠ .of (.lit (.string s)) := fun s e => hstr ⟨s, e⟩
    have h2 : ∀ s, x.drop t ≠ .of (.lit (.string s)) := fun s e => by
      cases x with
      | own t' e' z cs n => simp only [X.drop] at e; split at e <;> cases e
      | of c => exact h1 s e
      | _ => simp [X.drop] at e
    rw [slice' _ h2, slice _ h1, asSl_drop]
    exact fin

theorem lenX_drop (t : Tk) (u : Option TypeDesc) (x : X) : lenX u (x.drop t) = mapD t (lenX u x) := by
  cases x with
  | of c =>
    cases c with
    | lit v => cases v <;> simp only [X.drop, lenX, asSl, mapD_none, mapD_ite, mapD_out]
    | _ => simp only [X.drop, lenX, asSl, mapD_none, mapD_ite, mapD_out]
  | own t' e z cs n => simp only [X.drop]; split <;> simp only [lenX, asSl, mapD_ite, mapD_none, mapD_out, X.drop]
  | _ => simp only [X.drop, lenX, asSl, mapD_none, mapD_ite, mapD_out]

theorem convertX_drop (T : TT) (t : Tk) (a b : Nat) (x : X) : convertX T a b (x.drop t) = mapD t (convertX T a b x) := by
  cases x with
  | of c =>
    unfold convertX
    simp only [X.drop]
    split <;> simp [mapD, out, X.drop]
  | own t' e z cs n =>
    simp only [X.drop]
    have h1 : convertX T a b (.own t' e z cs n) = none := by unfold convertX; split <;> simp_all
    have h2 : convertX T a b (.of (.sl cs n)) = none := by unfold convertX; split <;> simp_all
    split <;> simp [h1, h2, mapD]
  | nil =>
    have h1 : convertX T a b .nil = none := by unfold convertX; split <;> simp_all
    simp [X.drop, h1, mapD]
  | ptr r o =>
    have h1 : convertX T a b (.ptr r o) = none := by unfold convertX; split <;> simp_all
    simp [X.drop, h1, mapD]
  | mp r =>
    have h1 : convertX T a b (.mp r) = none := by unfold convertX; split <;> simp_all
    simp [X.drop, h1, mapD]
  | clo f l =>
    have h1 : ∀ l, convertX T a b (.clo f l) = none := fun l => by unfold convertX; split <;> simp_all
    simp [X.drop, h1, mapD]
  | agg l =>
    have h1 : ∀ l, convertX T a b (.agg l) = none := fun l => by unfold convertX; split <;> simp_all
    simp [X.drop, h1, mapD]
  | tup l =>
    have h1 : ∀ l, convertX T a b (.tup l) = none := fun l => by unfold convertX; split <;> simp_all
    simp [X.drop, h1, mapD]

theorem litOf_drop (t : Tk) (x : X) : litOf (x.drop t) = litOf x := by
  cases x with
  | own t' e z cs n => rcases own_drop t t' e z cs n with h | h <;> rw [h] <;> rfl
  | _ => rfl
theorem mapOf_drop (t : Tk) (s : S) (x : X) : mapOf (s.drop (some t)).objs (x.drop t) = mapOf s.objs x := by
  cases x with
  | own t' e z cs n => rcases own_drop t t' e z cs n with h | h <;> rw [h] <;> rfl
  | mp r =>
    simp only [X.drop, mapOf, objs_drop]
    cases s.objs[r]? with
    | none => rfl
    | some ob => cases ob <;> rfl
  | of c =>
    cases c with
    | lit v => cases v with
      | map m => cases m <;> rfl
      | _ => rfl
    | _ => rfl
  | _ => rfl
theorem zero1_drop (T : TT) (t : Tk) (et : Nat) : (zero1 T et).map (X.drop t) = zero1 T et := by
  unfold zero1
  split
  · rw [← pieceX_drop, zeroX_drop]
  · rfl
theorem lookupX_drop (T : TT) (t : Tk) (s : S) (ty : Nat) (x kx : X) (ok : Bool) : lookupX T (s.drop (some t)).objs ty (x.drop t) (kx.drop t) ok = mapD t (lookupX T s.objs ty x kx ok) := by
  unfold lookupX
  rw [litOf_drop, mapOf_drop]
  split
  · rename_i kind et kv es _ _ _
    split
    · rename_i i _
      rw [mapD_outO]
      cases es[i]? with
      | none => rfl
      | some p => cases ok <;> rfl
    · rw [mapD_outO]
      congr 1
      have h := zero1_drop T t et
      cases hz : zero1 T et with
      | none => rfl
      | some z =>
        rw [hz] at h
        simp only [Option.map_some, Option.some.injEq] at h
        cases ok with
        | true => simp [X.drop, X.drops, h]
        | false => simp [h]
    · rfl
  · rfl

theorem appendX_drop (T : TT) (t tk : Tk) (ht : t ≠ tk) (st xt : Nat) (x y : X) : appendX T tk st xt (x.drop t) (y.drop t) = mapD t (appendX T tk st xt x y) := by
  unfold appendX
  rw [asSl_drop]
  split
  · split
    · split
      · cases x with
        | own t' e z cs n =>
          simp only [X.drop]
          by_cases he : t' = t
          · subst he
            simp only [if_true]
            split
            · simp [mapD]
            · rfl
          · simp only [he, if_false, mapD_ite, mapD_none]
            split
            · simp [mapD, he, X.drop, Ne.symm ht]
            · rfl
        | nil =>
          simp only [X.drop, mapD_ite, mapD_none]
          split
          · simp [mapD, X.drop, Ne.symm ht]
          · rfl
        | _ => simp [X.drop, mapD]
      · rfl
    · rfl
  · rfl

theorem nameX_drop1 (t : Tk) (clk ix : Nat) (ht : ∀ i, t ≠ .nm clk ix i) : ∀ x : X, (x.tr (fun _ => none) (nameTk clk ix)).drop t = x.tr (fun _ => none) (nameTk clk ix) :=
  X.rec (motive_1 := fun x => (x.tr (fun _ => none) (nameTk clk ix)).drop t = x.tr (fun _ => none) (nameTk clk ix)) (motive_2 := fun xs => X.drops t (X.trs (fun _ => none) (nameTk clk ix) xs) = X.trs (fun _ => none) (nameTk clk ix) xs)
    (fun _ => rfl) rfl
    (fun t' e z cs n => by
      simp only [X.tr]
      split
      · rename_i t2 h2
        have : t2 ≠ t := by
          unfold nameTk at h2
          split at h2
          · cases h2; exact Ne.symm (ht _)
          · cases h2
        simp [X.drop, this]
      · rfl)
    (fun _ _ => rfl) (fun _ => rfl) (fun f xs ih => by simp only [X.tr, X.drop, ih]) (fun xs ih => by simp only [X.tr, X.drop, ih]) (fun xs ih => by simp only [X.tr, X.drop, ih]) rfl
    (fun x xs h1 h2 => by simp only [X.trs, X.drops, h1, h2])
theorem nameX_drop (t : Tk) (clk ix : Nat) (ht : ∀ i, t ≠ .nm clk ix i) (xs : List X) : (nameX clk ix xs).map (X.drop t) = nameX clk ix xs := by
  unfold nameX
  induction xs with
  | nil => rfl
  | cons x xs ih => simp only [X.trs, List.map_cons, nameX_drop1 t clk ix ht, ih]
theorem oneX_drop (t : Tk) (xs : List X) : (oneX xs).drop t = oneX (xs.map (X.drop t)) := by
  match xs with
  | [] => simp [oneX, X.drop, drops_eq]
  | [x] => simp [oneX]
  | x :: y :: r => simp [oneX, X.drop, drops_eq]

theorem callX_drop (P : Program) (E : En) (t : Tk) (clk ix f : Nat) (ht : ∀ i, t ≠ .nm clk ix i) (cs : List C) : callX P E clk ix f cs = mapD t (callX P E clk ix f cs) := by
  unfold callX
  split
  · split
    · rw [mapD_out, oneX_drop, nameX_drop t _ _ ht]
    · rfl
  · rfl

theorem valCall_drop (P : Program) (T : TT) (E : En) (t : Tk) (s : S) (ix : Nat) (ht : ∀ i, t ≠ .nm s.clk ix i) (cal : Callee) (args : List Operand) (tys : List Nat) :
    valCall P T E (s.drop (some t)) ix cal args tys = mapD t (valCall P T E s ix cal args tys) := by
  unfold valCall
  split
  · rw [ev_drop, lenX_drop]
  · rw [ev_drop, ev_drop]; exact appendX_drop T t _ (ht 0) _ _ _ _
  · rename_i f
    rw [rdAll_drop, ev_drop]
    cases hf : s.ev f with
    | of c =>
      cases c <;> simp only [X.drop, mapD_none]
      split
      · exact callX_drop P E t s.clk ix _ ht _
      · rfl
    | own t' e z cs n => rcases own_drop t t' e z cs n with h | h <;> rw [h] <;> rfl
    | _ => rfl
  · rfl

theorem val_drop (P : Program) (T : TT) (E : En) (t : Tk) (s : S) (ix : Nat) (ht : ∀ i, t ≠ .nm s.clk ix i) (o : Oper) : val P T E (s.drop (some t)) ix o = mapD t (val P T E s ix o) := by
  unfold val
  split
  · rw [ev_drop, mapD_out]
  · rw [ev_drop, mapD_out]
  · rw [ev_drop, litBool_drop, ev_drop, ev_drop]
    split
    · rename_i b _
      cases b <;> simp [mapD_out]
    · rfl
  · rename_i op ty x y yt _
    rw [ev_drop, ev_drop]
    unfold binX
    rw [litOf_drop, litOf_drop, rd_drop, rd_drop]
    split
    · rename_i u v _ _
      cases binLit ((T ty).map (·.und)) op u v <;> rfl
    · unfold binAgg
      split
      · rename_i cs ds _ _
        split
        · cases eqAgg P T ty cs ds <;> rfl
        · cases eqAgg P T ty cs ds <;> rfl
        · rfl
      · rfl
  · rename_i op ty x _
    rw [ev_drop]
    cases s.ev x with
    | of c =>
      cases c <;> simp only [X.drop, mapD_none, mapD_outO]
      rename_i u
      cases unLit op u <;> rfl
    | own t' e z cs n => rcases own_drop t t' e z cs n with h | h <;> rw [h] <;> rfl
    | _ => rfl
  · rw [ev_drop]; exact loadX_drop T t s _ _
  · rw [ev_drop, fieldAddrX_drop]
  · rw [ev_drop, fieldX_drop]
  · rw [ev_drop, ev_drop, indexAddrX_drop]
  · rw [ev_drop, ev_drop, indexX_drop]
  · rename_i ty x lo hi _
    rw [ev_drop, ← sliceX_drop]
    congr 1
    · cases lo <;> simp [ev_drop]
    · cases hi <;> simp [ev_drop]
  · rename_i ty ps _
    rw [partsX_drop]
    cases T ty with
    | none => rfl
    | some d =>
      cases partsX s.ev ps.toList with
      | none => rfl
      | some qs =>
        simp only [Option.map_some]
        split
        · have h1 := fillX_drop (fun i => d.fields[i]?) t qs (zeroX d)
          rw [zeroX_drop] at h1
          rw [h1, mapD_outO]
          cases fillX (fun i => d.fields[i]?) (zeroX d) qs <;> simp [X.drop, drops_eq]
        · split
          · rename_i de _
            have h1 := fillX_drop (fun i => some (i * de.size, de.size)) t qs (zeroX d)
            rw [zeroX_drop] at h1
            rw [h1, mapD_outO]
            cases fillX (fun i => some (i * de.size, de.size)) (zeroX d) qs <;> simp [X.drop, drops_eq]
          · rfl
        · rfl
  · rename_i ty n ps _
    rw [partsX_drop]
    cases elemOf T ty with
    | none => rfl
    | some ed =>
      obtain ⟨e, d⟩ := ed
      cases partsX s.ev ps.toList with
      | none => rfl
      | some qs =>
        simp only [Option.map_some]
        split
        · have h0 : ((List.replicate n (zeroX d)).flatten).map (X.drop t) = (List.replicate n (zeroX d)).flatten := by
            rw [List.map_flatten, List.map_replicate, zeroX_drop]
          have h1 := fillX_drop (fun i => some (i * d.size, d.size)) t qs ((List.replicate n (zeroX d)).flatten)
          rw [h0] at h1
          rw [h1]
          cases fillX (fun i => some (i * d.size, d.size)) ((List.replicate n (zeroX d)).flatten) qs with
          | none => rfl
          | some xs =>
            simp only [Option.map_some, rds_drop]
            cases X.rds xs with
            | none => rfl
            | some cs =>
              simp only [mapD_out, X.drop]
              rw [if_neg (fun e => ht 0 e.symm)]
              rfl
        · rfl
  · rename_i x i _
    rw [ev_drop]
    cases s.ev x with
    | of c =>
      cases c <;> simp only [X.drop, mapD_none, mapD_outO]
      rename_i cs
      cases cs[i]? <;> rfl
    | own t' e z cs n => rcases own_drop t t' e z cs n with h | h <;> rw [h] <;> rfl
    | tup xs => simp [X.drop, drops_eq, mapD_outO]
    | _ => rfl
  · rename_i x _
    rw [ev_drop]
    cases s.ev x with
    | of c => cases c <;> simp only [X.drop, mapD_none, mapD_out]
    | own t' e z cs n => rcases own_drop t t' e z cs n with h | h <;> rw [h] <;> rfl
    | _ => simp [X.drop, mapD, out]
  · rw [rdAll_drop]
    split
    · split
      · simp [mapD_out, X.drop]
      · rfl
    · rfl
  · rw [ev_drop, convertX_drop]
  · rw [ev_drop, ev_drop]; exact lookupX_drop T t s _ _ _ _
  · rw [ev_drop, rd_drop]
    split
    · simp [mapD_out, X.drop]
    · rfl
  · exact valCall_drop P T E t s ix ht _ _ _
  · rfl
end Go.Pe

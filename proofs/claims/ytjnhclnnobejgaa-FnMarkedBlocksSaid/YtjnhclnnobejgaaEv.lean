/- The engine, between: regions that draw their order come to what the order written comes to; conditions: none. -/
import Derived.Test.YtjnhclnnobejgaaEu
import Derived.Test.YtjnhclnnobejgaaEm
namespace Go.Proofs.YtjnhclnnobejgaaE
open Go.RowKit
set_option linter.unusedVariables false
set_option linter.unusedSimpArgs false
variable [DW : Drw]

/-! ### The table of those that come before -/

omit DW in
theorem memN_iff {r : Nat} : ∀ {L : List Nat}, memN r L = true ↔ r ∈ L
  | [] => by simp [memN]
  | s :: L => by
    simp only [memN]
    split
    · rename_i h; have := Nat.eq_of_beq_eq_true h; subst this; simp
    · rename_i h
      have hne : s ≠ r := fun he => by subst he; simp at h
      rw [memN_iff, List.mem_cons]
      constructor
      · exact .inr
      · rintro (rfl | h2)
        · exact absurd rfl hne
        · exact h2

omit DW in
theorem addN_mem {i : Nat} : ∀ (xs s : List Nat), i ∈ addN xs s → i ∈ xs ∨ i ∈ s
  | [], s, h => .inr h
  | x :: xs, s, h => by
    simp only [addN] at h
    split at h
    · rcases addN_mem xs s h with h | h
      · exact .inl (List.mem_cons_of_mem _ h)
      · exact .inr h
    · rcases addN_mem xs _ h with h | h
      · exact .inl (List.mem_cons_of_mem _ h)
      · rcases List.mem_cons.mp h with rfl | h
        · exact .inl (List.mem_cons_self ..)
        · exact .inr h

omit DW in
theorem ancOf_mem {acc : List (List Nat)} {i : Nat} : ∀ (es : List Edge) (s : List Nat), i ∈ ancOf acc es s → i ∈ s ∨ ∃ e ∈ es, Region.binds .any e = true ∧ (e.on = i ∨ i ∈ getL acc e.on)
  | [], s, h => .inl h
  | e :: es, s, h => by
    simp only [ancOf] at h
    split at h
    · rename_i hb
      rcases ancOf_mem es _ h with h | ⟨e', h1, h2⟩
      · rcases addN_mem _ _ h with h | h
        · rcases List.mem_cons.mp h with h | h
          · exact .inr ⟨e, List.mem_cons_self .., hb, .inl h.symm⟩
          · exact .inr ⟨e, List.mem_cons_self .., hb, .inr h⟩
        · exact .inl h
      · exact .inr ⟨e', List.mem_cons_of_mem _ h1, h2⟩
    · rcases ancOf_mem es _ h with h | ⟨e', h1, h2⟩
      · exact .inl h
      · exact .inr ⟨e', List.mem_cons_of_mem _ h1, h2⟩

/-- One operation waits for another, through others maybe. -/
inductive Anc (ops : Array Oper) : Nat → Nat → Prop where
  | base (j : Nat) (y : Oper) (e : Edge) (h1 : ops[j]? = some y) (h2 : e ∈ y.after) (h3 : Region.binds .any e = true) : Anc ops j e.on
  | step (j i : Nat) (y : Oper) (e : Edge) (h1 : ops[j]? = some y) (h2 : e ∈ y.after) (h3 : Region.binds .any e = true) (h4 : Anc ops e.on i) : Anc ops j i

omit DW in
theorem getL_app (x : List Nat) : ∀ (acc : List (List Nat)) (j : Nat), getL (acc ++ [x]) j = if j < acc.length then getL acc j else if j = acc.length then x else []
  | [], 0 => rfl
  | [], j + 1 => by cases j <;> simp [getL]
  | a :: acc, 0 => by simp [getL]
  | a :: acc, j + 1 => by
    simp only [List.cons_append, getL, List.length_cons, Nat.add_lt_add_iff_right, Nat.add_right_cancel_iff]
    exact getL_app x acc j

omit DW in
theorem getL_out : ∀ (acc : List (List Nat)) (j : Nat), acc.length ≤ j → getL acc j = []
  | [], j, h => by cases j <;> rfl
  | a :: acc, 0, h => by simp at h
  | a :: acc, j + 1, h => by simp only [getL]; exact getL_out acc j (by simpa using h)

omit DW in
theorem ancTab_anc {ops : Array Oper} : ∀ (l : List Oper) (acc : List (List Nat)), (∀ n, l[n]? = ops[acc.length + n]?) → (∀ j i, i ∈ getL acc j → Anc ops j i) → ∀ j i, i ∈ getL (ancTab l acc) j → Anc ops j i
  | [], acc, hl, h, j, i, hi => h j i hi
  | o :: l, acc, hl, h, j, i, hi => by
    rw [ancTab] at hi
    have h0 : ops[acc.length]? = some o := by simpa using (hl 0).symm
    refine ancTab_anc l _ (fun n => ?_) (fun j i hi => ?_) j i hi
    · have := hl (n + 1)
      rw [List.getElem?_cons_succ] at this
      rw [this, List.length_append, List.length_singleton]
      congr 1; omega
    · rw [getL_app] at hi
      split at hi
      · exact h j i hi
      · split at hi
        · rename_i hj
          subst hj
          rcases ancOf_mem _ _ hi with hi | ⟨e, h1, h2, h3⟩
          · simp at hi
          · have h1' : e ∈ o.after := by simpa using h1
            rcases h3 with h3 | h3
            · subst h3; exact .base _ o e h0 h1' h2
            · exact .step _ _ o e h0 h1' h2 (h _ _ h3)
        · simp at hi

/-! ### What the check says -/

def kindT (t3 : Bool) (n : Nat) : Nat := match t3 with | true => 3 | false => n

omit DW in
theorem drawCol_spec {sc pu : List Nat} {ops : Array Oper} {tab : List (List Nat)} {j : Nat} {y : Oper} {t3 : Bool} : ∀ (l : List Oper) (i0 : Nat), (∀ n, l[n]? = ops[i0 + n]?) → drawCol sc pu ops tab j y t3 i0 l = true →
    ∀ i x, i0 ≤ i → i < j → ops[i]? = some x → drawPair (kindD sc pu x) (kindT t3 (kindD sc pu y)) i j x y ops tab = true
  | [], i0, hl, h, i, x, h1, h2, h3 => by
    have := hl (i - i0)
    rw [show i0 + (i - i0) = i by omega, h3] at this
    simp at this
  | z :: l, i0, hl, h, i, x, h1, h2, h3 => by
    simp only [drawCol] at h
    split at h
    · rename_i hb
      exfalso
      have : Nat.blt i0 j = true := by rw [Nat.blt_eq]; omega
      rw [this] at hb; simp at hb
    · split at h
      · rename_i hp
        by_cases hi : i = i0
        · subst hi
          have : x = z := by
            have := hl 0
            rw [Nat.add_zero, h3] at this
            simpa using this.symm
          subst this
          cases t3 <;> exact hp
        · refine drawCol_spec l (i0 + 1) (fun n => ?_) h i x (by omega) h2 h3
          have := hl (n + 1)
          rw [List.getElem?_cons_succ] at this
          rw [this]; congr 1; omega
      · simp at h

omit DW in
theorem drawAll_spec {sc pu : List Nat} {ops : Array Oper} {tab : List (List Nat)} : ∀ (l : List Oper) (j0 : Nat) (t3 : Bool), (∀ n, l[n]? = ops[j0 + n]?) → (∀ i x, i < j0 → ops[i]? = some x → kindD sc pu x = 3 → t3 = true) →
    drawAll sc pu ops ops.toList tab t3 j0 l = true → ∀ j y, j0 ≤ j → ops[j]? = some y →
    (∀ e ∈ y.after, Region.binds .any e = true → e.on < j) ∧ ∃ t3', (∀ i x, i ≤ j → ops[i]? = some x → kindD sc pu x = 3 → t3' = true) ∧
      ∀ i x, i < j → ops[i]? = some x → drawPair (kindD sc pu x) (kindT t3' (kindD sc pu y)) i j x y ops tab = true
  | [], j0, t3, hl, ht, h, j, y, h1, h2 => by
    have := hl (j - j0)
    rw [show j0 + (j - j0) = j by omega, h2] at this
    simp at this
  | z :: l, j0, t3, hl, ht, h, j, y, h1, h2 => by
    simp only [drawAll] at h
    split at h
    · simp at h
    · rename_i ha
      split at h
      · rename_i hc
        have hz : ops[j0]? = some z := by simpa using (hl 0).symm
        have ht' : ∀ i x, i < j0 + 1 → ops[i]? = some x → kindD sc pu x = 3 → (t3 || Nat.beq (kindD sc pu z) 3) = true := by
          intro i x hi hx hk
          by_cases hij : i < j0
          · rw [ht i x hij hx hk]; rfl
          · have : i = j0 := by omega
            subst this
            rw [hz] at hx; injection hx with hx; subst hx
            rw [hk]; simp
        by_cases hj : j = j0
        · subst hj
          rw [hz] at h2; injection h2 with h2; subst h2
          refine ⟨fun e he hb => ?_, _, fun i x hi hx hk => ht' i x (by omega) hx hk, fun i x hi hx => ?_⟩
          · have := List.all_eq_true.mp ha e (by simpa using he)
            rw [hb] at this
            simpa [Nat.blt_eq] using this
          · exact drawCol_spec ops.toList 0 (fun n => by simp) hc i x (by omega) hi hx
        · refine drawAll_spec l (j0 + 1) _ (fun n => ?_) ht' h j y (by omega) h2
          have := hl (n + 1)
          rw [List.getElem?_cons_succ] at this
          rw [this]; congr 1; omega
      · simp at h

/-- What a region must keep so that every order comes to what the order written comes to. -/
structure Lawful (sc pu : List Nat) (ops : Array Oper) : Prop where
  back : ∀ (j : Nat) (y : Oper) (e : Edge), ops[j]? = some y → e ∈ y.after → Region.binds .any e = true → e.on < j
  pair : ∀ (i j : Nat) (x y : Oper), i < j → ops[i]? = some x → ops[j]? = some y → (∃ e ∈ y.after, Region.binds .any e = true ∧ e.on = i) ∨ x.apart ops y = true
  dst : ∀ (i j : Nat) (x y : Oper) (d : Nat), ops[i]? = some x → ops[j]? = some y → x.dst = some d → y.dst = some d → i = j
  tail : ∀ (i j p : Nat) (z : Oper), i < j → p ≤ j → j < ops.size → ops[p]? = some z → kindD sc pu z = 3 → Anc ops j i
  two : ∀ (i j : Nat) (x y : Oper), i < j → ops[i]? = some x → ops[j]? = some y → kindD sc pu x = 2 → kindD sc pu y = 2 → Anc ops j i

omit DW in
theorem edgeB_spec {o : Oper} {i : Nat} (h : edgeB o i = true) : ∃ e ∈ o.after, Region.binds .any e = true ∧ e.on = i := by
  unfold edgeB at h
  obtain ⟨e, h1, h2⟩ := List.any_eq_true.mp h
  rw [Bool.and_eq_true] at h2
  exact ⟨e, by simpa using h1, h2.1, Nat.eq_of_beq_eq_true h2.2⟩

omit DW in
theorem memB_iff {i m : Nat} : memB i m = true ↔ m.testBit i = true := by
  have e : m.testBit i = (1 &&& (m >>> i) != 0) := rfl
  rw [e, Nat.and_comm]
  unfold memB
  show (match (m >>> i) &&& 1 with
    | 0 => false
    | _ => true) = true ↔ _
  generalize (m >>> i) &&& 1 = x
  cases x <;> simp
omit DW in
theorem ancB_mem {acc : List Nat} {i : Nat} : ∀ (es : List Edge) (s : Nat), (ancB acc es s).testBit i = true → s.testBit i = true ∨ ∃ e ∈ es, Region.binds .any e = true ∧ (e.on = i ∨ (getM acc e.on).testBit i = true)
  | [], s, h => .inl h
  | e :: es, s, h => by
    simp only [ancB] at h
    split at h
    · rename_i hb
      rcases ancB_mem es _ h with h | ⟨e', h1, h2⟩
      · have h' : (((1 <<< e.on) ||| getM acc e.on) ||| s).testBit i = true := h
        rw [Nat.testBit_or, Nat.testBit_or, Bool.or_eq_true, Bool.or_eq_true] at h'
        rcases h' with (h | h) | h
        · refine .inr ⟨e, List.mem_cons_self .., hb, .inl ?_⟩
          rw [Nat.testBit_shiftLeft, Bool.and_eq_true, decide_eq_true_eq] at h
          have h2 := h.2
          by_cases hz : i - e.on = 0
          · omega
          · obtain ⟨m, hm⟩ : ∃ m, i - e.on = m + 1 := ⟨i - e.on - 1, by omega⟩
            rw [hm, Nat.testBit_succ] at h2
            simp at h2
        · exact .inr ⟨e, List.mem_cons_self .., hb, .inr h⟩
        · exact .inl h
      · exact .inr ⟨e', List.mem_cons_of_mem _ h1, h2⟩
    · rcases ancB_mem es _ h with h | ⟨e', h1, h2⟩
      · exact .inl h
      · exact .inr ⟨e', List.mem_cons_of_mem _ h1, h2⟩
omit DW in
theorem getM_app (x : Nat) : ∀ (acc : List Nat) (j : Nat), getM (acc ++ [x]) j = if j < acc.length then getM acc j else if j = acc.length then x else 0
  | [], 0 => rfl
  | [], j + 1 => by cases j <;> simp [getM]
  | a :: acc, 0 => by simp [getM]
  | a :: acc, j + 1 => by
    simp only [List.cons_append, getM, List.length_cons, Nat.add_lt_add_iff_right, Nat.add_right_cancel_iff]
    exact getM_app x acc j
omit DW in
theorem ancM_anc {ops : Array Oper} : ∀ (l : List Oper) (acc : List Nat), (∀ n, l[n]? = ops[acc.length + n]?) → (∀ j i, (getM acc j).testBit i = true → Anc ops j i) → ∀ j i, (getM (ancM l acc) j).testBit i = true → Anc ops j i
  | [], acc, hl, h, j, i, hi => h j i hi
  | o :: l, acc, hl, h, j, i, hi => by
    rw [ancM] at hi
    have h0 : ops[acc.length]? = some o := by simpa using (hl 0).symm
    refine ancM_anc l _ (fun n => ?_) (fun j i hi => ?_) j i hi
    · have := hl (n + 1)
      rw [List.getElem?_cons_succ] at this
      rw [this, List.length_append, List.length_singleton]
      congr 1; omega
    · rw [getM_app] at hi
      split at hi
      · exact h j i hi
      · split at hi
        · rename_i hj
          subst hj
          rcases ancB_mem _ _ hi with hi | ⟨e, h1, h2, h3⟩
          · simp at hi
          · have h1' : e ∈ o.after := by simpa using h1
            rcases h3 with h3 | h3
            · subst h3; exact .base _ o e h0 h1' h2
            · exact .step _ _ o e h0 h1' h2 (h _ _ h3)
        · simp at hi
omit DW in
theorem tab_ancB {ops : Array Oper} {i j : Nat} (hm : memB i (getM (ancM ops.toList []) j) = true) : Anc ops j i :=
  ancM_anc ops.toList [] (fun n => by simp) (fun j i hi => by cases j <;> simp [getM] at hi) j i (memB_iff.mp hm)
omit DW in
theorem tab_anc {ops : Array Oper} {i j : Nat} (hm : memN i (getL (ancTab ops.toList []) j) = true) : Anc ops j i :=
  ancTab_anc ops.toList [] (fun n => by simp) (fun j i hi => by cases j <;> simp [getL] at hi) j i (memN_iff.mp hm)
omit DW in
theorem drawOK_lawful {sc pu : List Nat} {ops : Array Oper} (h : drawOK sc pu ops = true) : Lawful sc pu ops := by
  have key := drawAll_spec ops.toList 0 false (fun n => by simp) (fun i x hi => by omega) h
  have anc : ∀ j i, memN i (getL (ancTab ops.toList []) j) = true → Anc ops j i := fun j i hm =>
    ancTab_anc ops.toList [] (fun n => by simp) (fun j i hi => by cases j <;> simp [getL] at hi) j i (memN_iff.mp hm)
  have pr : ∀ (i j : Nat) (x y : Oper), i < j → ops[i]? = some x → ops[j]? = some y → ∃ t3', (∀ (i : Nat) (x : Oper), i ≤ j → ops[i]? = some x → kindD sc pu x = 3 → t3' = true) ∧ drawPair (kindD sc pu x) (kindT t3' (kindD sc pu y)) i j x y ops (ancTab ops.toList []) = true := by
    intro i j x y hij hx hy
    obtain ⟨_, t3, h1, h2⟩ := key j y (by omega) hy
    exact ⟨t3, h1, h2 i x hij hx⟩
  have dn : ∀ (i j : Nat) (x y : Oper), i < j → ops[i]? = some x → ops[j]? = some y → dstNe x y = true := by
    intro i j x y hij hx hy
    obtain ⟨t3, _, hp⟩ := pr i j x y hij hx hy
    simp only [drawPair, Bool.and_eq_true] at hp
    exact hp.2.1
  have k2 : ∀ (i j : Nat) (x y : Oper), i < j → ops[i]? = some x → ops[j]? = some y → (∀ t3, (∀ tab, drawPair (kindD sc pu x) (kindT t3 (kindD sc pu y)) i j x y ops tab = true → memN i (getL tab j) = true)) → Anc ops j i := by
    intro i j x y hij hx hy hk
    obtain ⟨t3, _, hp⟩ := pr i j x y hij hx hy
    exact anc j i (hk t3 _ hp)
  refine ⟨fun j y e hy he hb => (key j y (by omega) hy).1 e he hb, fun i j x y hij hx hy => ?_, fun i j x y d hx hy h1 h2 => ?_, fun i j p z hij hpj hj hz hk => ?_, fun i j x y hij hx hy h1 h2 => ?_⟩
  · obtain ⟨t3, _, hp⟩ := pr i j x y hij hx hy
    simp only [drawPair, Bool.and_eq_true, Bool.or_eq_true] at hp
    rcases hp.1 with h | h
    · exact .inl (edgeB_spec h)
    · exact .inr h
  · rcases Nat.lt_trichotomy i j with h | h | h
    · have := dn i j x y h hx hy
      simp [dstNe, h1, h2] at this
    · exact h
    · have := dn j i y x h hy hx
      simp [dstNe, h1, h2] at this
  · have hy : ops[j]? = some ops[j] := by simp [hj]
    have hi : i < ops.size := by omega
    have hx : ops[i]? = some ops[i] := by simp [hi]
    obtain ⟨t3, h1, hp⟩ := pr i j _ _ hij hx hy
    rw [h1 p z hpj hz hk] at hp
    simp only [drawPair, kindT, Bool.and_eq_true] at hp
    have := hp.2.2
    generalize kindD sc pu ops[i] = kx at this
    exact anc j i (by
      split at this <;> first | exact this | (rename_i e; simp at e))
  all_goals
    refine k2 i j x y hij hx hy fun t3 tab hp => ?_
    cases t3 <;> simp only [drawPair, kindT, h1, h2, Bool.and_eq_true] at hp <;> exact hp.2.2

/-! ### What an operation comes to depends on what it looks at -/

omit DW in
theorem cut_congr {R : Type} {t t' : List V} {x : Option Operand} {z : Int} {k : Int → Option R} (h : ∀ y ∈ x.toArray, val t y = val t' y) : cutV t x z k = cutV t' x z k := by
  cases x with
  | none => rfl
  | some y => simp only [cutV, h y (by simp)]

omit DW in
theorem mapO_congr {α β : Type} {f g : α → β} : ∀ {l : List α}, (∀ x ∈ l, f x = g x) → mapO f l = mapO g l
  | [], _ => rfl
  | a :: l, h => by
    have h1 : mapO f l = mapO g l := mapO_congr fun x hx => h x (List.mem_cons_of_mem _ hx)
    simp only [mapO, h a (by simp), h1]

omit DW in
theorem fill_congr {R : Type} {places : List (Nat × Nat)} {t t' : List V} : ∀ (ps : List (Nat × Operand)) (cs : List V) (k : List V → Option R), (∀ p ∈ ps, val t p.2 = val t' p.2) → fillV places t ps cs k = fillV places t' ps cs k
  | [], cs, k, h => rfl
  | (j, x) :: ps, cs, k, h => by
    have h1 := h (j, x) (by simp)
    simp only at h1
    simp only [fillV, forceAll_eq, h1]
    have h2 : ∀ cs (k : List V → Option R), fillV places t ps cs k = fillV places t' ps cs k := fun cs k => fill_congr ps cs k (fun p hp => h p (by simp [hp]))
    simp only [h2]

omit DW in
theorem opQ_congr {R : Type} {E : Env} {t t' : List V} {F : Fo} {op : Op} {k : V → Option R} (h : ∀ x ∈ op.operands, val t x = val t' x) : opQ E t F op k = opQ E t' F op k := by
  cases op with
  | makeFunc f first caps =>
    have h2 : mapO (val t) caps.toList = mapO (val t') caps.toList := mapO_congr fun x hx => h x (by simp [Op.operands]; exact .inr (by simpa using hx))
    cases f <;> simp only [opQ, h2]
  | slice ty x lo hi mx =>
    have h1 := h x (by simp [Op.operands])
    have h2 : ∀ z (k : Int → Option R), cutV t lo z k = cutV t' lo z k := fun z k => cut_congr fun y hy => h y (by simp [Op.operands] at hy ⊢; simp [hy])
    have h3 : ∀ z (k : Int → Option R), cutV t hi z k = cutV t' hi z k := fun z k => cut_congr fun y hy => h y (by simp [Op.operands] at hy ⊢; simp [hy])
    cases mx <;> simp only [opQ, h1, h2, h3]
  | call c =>
    have ha : ∀ x ∈ c.args.toList, val t x = val t' x := fun x hx => h x (by
      have : x ∈ c.args := by simpa using hx
      simp [Op.operands, Call.operands, this])
    simp only [opQ]
    split
    · rename_i x ty h1 h2 h3
      simp only [ha x (by rw [h2]; simp)]
    · rename_i x y h1 h2
      simp only [ha x (by rw [h2]; simp), ha y (by rw [h2]; simp)]
    · rename_i x y h1 h2
      simp only [ha x (by rw [h2]; simp), ha y (by rw [h2]; simp)]
    · rfl
  | build ty ps =>
    have hp : ∀ p ∈ ps.toList, val t p.2 = val t' p.2 := fun p hp => h p.2 (by
      simp [Op.operands]
      exact ⟨p.1, by simpa using hp⟩)
    have h2 : ∀ places cs (k : List V → Option R), fillV places t ps.toList cs k = fillV places t' ps.toList cs k := fun places cs k => fill_congr _ _ _ hp
    simp only [opQ, h2]
  | move x => have h1 := h x (by simp [Op.operands]); simp only [opQ, h1]
  | assign x => have h1 := h x (by simp [Op.operands]); simp only [opQ, h1]
  | pick c a b => have h1 := h c (by simp [Op.operands]); have h2 := h a (by simp [Op.operands]); have h3 := h b (by simp [Op.operands]); simp only [opQ, h1, h2, h3]
  | load ty x => have h1 := h x (by simp [Op.operands]); simp only [opQ, h1]
  | nilCheck x => have h1 := h x (by simp [Op.operands]); simp only [opQ, h1]
  | binOp b ty x y ty' => have h1 := h x (by simp [Op.operands]); have h2 := h y (by simp [Op.operands]); simp only [opQ, h1, h2]
  | unOp u ty x => have h1 := h x (by simp [Op.operands]); simp only [opQ, h1]
  | convert s d x => have h1 := h x (by simp [Op.operands]); simp only [opQ, h1]
  | fieldAddr s x f => have h1 := h x (by simp [Op.operands]); simp only [opQ, h1]
  | field s x f => have h1 := h x (by simp [Op.operands]); simp only [opQ, h1]
  | indexAddr ty x y => have h1 := h x (by simp [Op.operands]); have h2 := h y (by simp [Op.operands]); simp only [opQ, h1, h2]
  | index ty x y => have h1 := h x (by simp [Op.operands]); have h2 := h y (by simp [Op.operands]); simp only [opQ, h1, h2]
  | lookup ty x y ok => have h1 := h x (by simp [Op.operands]); have h2 := h y (by simp [Op.operands]); simp only [opQ, h1, h2]
  | extract x i => have h1 := h x (by simp [Op.operands]); simp only [opQ, h1]
  | _ => rfl

omit DW in
theorem args_congr {E : Env} {g : FuncId} {t t' : List V} {c : Call} (h : ∀ x ∈ (Op.call c).operands, val t x = val t' x) : argsV E g t c.args.toList = argsV E g t' c.args.toList := by
  have h' : ∀ x ∈ c.args.toList, val t x = val t' x := fun x hx => h x (by
    have : x ∈ c.args := by simpa using hx
    simp [Op.operands, Call.operands, this])
  unfold argsV
  split
  · refine mapO_congr fun x hx => ?_
    unfold valX
    split
    · rfl
    · exact h' _ hx
  · exact mapO_congr h'
omit DW in
theorem callee_congr {t t' : List V} {c : Call} {f : Operand} (hc : c.callee = .value f) (h : ∀ x ∈ (Op.call c).operands, val t x = val t' x) : val t f = val t' f :=
  h f (by simp [Op.operands, Call.operands, hc])

omit DW in
theorem lstD_congr {R : Type} {E : Env} {t t' : List V} {ty : TypeId} {n : Nat} {ps : Array (Nat × Operand)} {k : V → Option R} (h : ∀ x ∈ (Op.buildSlice ty n ps).operands, val t x = val t' x) : lstD E t ty n ps k = lstD E t' ty n ps k := by
  unfold lstD
  split
  · split
    · split
      · split
        · rename_i _ x _ hps
          have : val t x = val t' x := h x (by
            have hpa : ps = #[(0, x)] := by apply Array.ext'; simpa using hps
            subst hpa
            simp [Op.operands])
          rw [this]
        · rfl
      · rfl
    · rfl
  · rfl
omit DW in
theorem opD_congr {R : Type} {E : Env} {call : Ca} {o : Oper} {t t' : List V} {F : Fo} {k : V → Option R} (h : ∀ x ∈ o.op.operands, val t x = val t' x) : opD E call o t F k = opD E call o t' F k := by
  unfold opD
  split
  · rename_i c ho
    rw [ho] at h
    split
    · rename_i f hc
      unfold opS
      rw [hc]
      simp only [callee_congr hc h, args_congr h]
    · exact opQ_congr h
  · rename_i ty n ps ho
    rw [ho] at h
    exact lstD_congr h
  · exact opQ_congr h

omit DW in
theorem datParts_congr {R : Type} {n : Nat} {t t' : List V} : ∀ (ps : List (Nat × Operand)) (i : Nat) (k : List (List D) → Option R), (∀ p ∈ ps, val t p.2 = val t' p.2) → datParts n t i ps k = datParts n t' i ps k
  | [], i, k, h => rfl
  | (j, x) :: ps, i, k, h => by
    have h1 := h (j, x) (by simp)
    simp only at h1
    simp only [datParts, h1]
    have h2 : ∀ (k : List (List D) → Option R), datParts n t (i + 1) ps k = datParts n t' (i + 1) ps k := fun k => datParts_congr ps (i + 1) k (fun p hp => h p (by simp [hp]))
    simp only [h2]

omit DW in
theorem opX_congr {R : Type} {E : Env} {call : Ca} {o : Oper} {t t' : List V} {F : Fo} {k : V → Fo → Option R} (h : ∀ x ∈ o.op.operands, val t x = val t' x) : opX E call o t F k = opX E call o t' F k := by
  unfold opX
  split
  · rfl
  · rename_i ty x ho; rw [ho] at h; simp only [h x (by simp [Op.operands])]
  · rename_i ty ps ho
    rw [ho] at h
    simp only [bldN, bldOn]
    have h2 : ∀ (pl : List (Nat × Nat)) (cs : List V) (k : List V → Option R), fillV pl t ps.toList cs k = fillV pl t' ps.toList cs k := fun pl cs k => fill_congr _ _ _ fun p hp => h p.2 (by
      simp [Op.operands]
      exact ⟨p.1, by simpa using hp⟩)
    simp only [h2]
  · rename_i ty l c ho; rw [ho] at h; simp only [h l (by simp [Op.operands]), h c (by simp [Op.operands])]
  · rename_i ty n ps ho
    rw [ho] at h
    have h2 : ∀ (m : Nat) (k : List (List D) → Option R), datParts m t 0 ps.toList k = datParts m t' 0 ps.toList k := fun m k => datParts_congr _ _ _ fun p hp => h p.2 (by
      simp [Op.operands]
      exact ⟨p.1, by simpa using hp⟩)
    simp only [h2]
  · rename_i c ho
    rw [ho] at h
    split
    · rename_i f hc
      simp only [callee_congr hc h, args_congr h]
    · rfl
  · rfl

omit DW in
theorem opS4_congr {R : Type} {E : Env} {o : Oper} {t t' : List V} {F : Fo} {k : Fo → Option R} (h : ∀ x ∈ o.op.operands, val t x = val t' x) : opS4 E t F o k = opS4 E t' F o k := by
  unfold opS4
  split
  · rename_i ty x v ho
    rw [ho] at h
    simp only [h x (by simp [Op.operands]), h v (by simp [Op.operands])]
  · rfl
omit DW in
theorem opN_congr {R : Type} {E : Env} {o : Oper} {q : Nat} {t t' : List V} {F : Fo} {k : V → Fo → Option R} (h : ∀ x ∈ o.op.operands, val t x = val t' x) : opN E t o q F k = opN E t' o q F k := by
  unfold opN
  split
  · split
    · rfl
    · rename_i ty x ho; rw [ho] at h; simp only [h x (by simp [Op.operands])]
    · rename_i ty l c ho; rw [ho] at h; simp only [h l (by simp [Op.operands]), h c (by simp [Op.operands])]
    · rename_i ty n ps ho
      rw [ho] at h
      have h2 : ∀ (m : Nat) (k : List (List D) → Option R), datParts m t 0 ps.toList k = datParts m t' 0 ps.toList k := fun m k => datParts_congr _ _ _ fun p hp => h p.2 (by
        simp [Op.operands]
        exact ⟨p.1, by simpa using hp⟩)
      simp only [h2]
    · rename_i src dst x ho; rw [ho] at h; simp only [cvtB, h x (by simp [Op.operands])]
    · rename_i c ho
      rw [ho] at h
      have ha : ∀ x ∈ c.args.toList, val t x = val t' x := fun x hx => h x (by
        have : x ∈ c.args := by simpa using hx
        simp [Op.operands, Call.operands, this])
      split
      · rename_i x y tx ty h1 h2 h3
        simp only [ha x (by rw [h2]; simp), ha y (by rw [h2]; simp)]
      · rfl
    · rfl
  · rfl
omit DW in
theorem newL_congr {o : Oper} {t t' : List V} (h : ∀ x ∈ o.op.operands, val t x = val t' x) : newL t o = newL t' o := by
  unfold newL
  split
  · rename_i c ho
    rw [ho] at h
    split
    · rename_i x y h2
      rw [h y (by
        have : y ∈ c.args := by
          have : y ∈ c.args.toList := by rw [h2]; simp
          simpa using this
        simp [Op.operands, Call.operands, this])]
    · rfl
  · rfl

omit DW in
theorem opQ_noF {R : Type} {E : Env} {t : List V} {F F' : Fo} {pu : List Nat} {o : Oper} {k : V → Option R} (h : kindD E.scal pu o = 0) : opQ E t F o.op k = opQ E t F' o.op k := by
  unfold kindD at h
  generalize o.op = op at h
  cases op with
  | load => simp at h
  | indexAddr => simp at h
  | lookup => simp at h
  | call c =>
    simp only at h
    simp only [opQ]
    split
    · rename_i x ty h1 h2 h3
      rw [h1] at h
      simp at h
    · rfl
    · rfl
    · rfl
  | slice ty x lo hi mx => cases mx <;> rfl
  | makeFunc f first caps => cases f <;> rfl
  | convert src dst x =>
    have hm : memN (src + 1000000) E.scal = false := by
      cases hm : memN (src + 1000000) E.scal
      · rfl
      · simp only [hm] at h
        simp at h
    simp only [opQ, hm]
  | _ => rfl

omit DW in
theorem opD_noF {R : Type} {E : Env} {call : Ca} {t : List V} {F F' : Fo} {o : Oper} {k : V → Option R} (h : kindD E.scal E.pur o = 0) : opD E call o t F k = opD E call o t F' k := by
  have hq := fun k => opQ_noF (R := R) (E := E) (t := t) (F := F) (F' := F') (k := k) h
  unfold opD
  split
  · rename_i c ho
    split
    · rename_i f hc
      unfold kindD at h
      rw [ho] at h
      simp only [hc] at h
      cases f with
      | func g =>
        simp only at h
        split at h
        · simp at h
        · rename_i hg
          unfold opS
          rw [hc]
          simp only [val, hg]
      | _ => simp at h
    · have := hq k
      rw [ho] at this
      exact this
  · rfl
  · exact hq k

/-! ### What an operation comes to depends on the roots at which it looks -/
omit DW in
theorem lookR_mem {F : Fo} {r : Nat} : ∀ {L : List Nat}, r ∈ L → r ∈ lookR F L
  | s :: L, h => by
    simp only [lookR]
    rcases List.mem_cons.mp h with rfl | h
    · simp
    · exact List.mem_cons_of_mem _ (List.mem_append_right _ (lookR_mem h))
omit DW in
theorem lookR_in {F : Fo} {r s : Nat} {cs : List V} (hb : root F r = some (.box cs)) (hs : s ∈ refsL cs) : ∀ {L : List Nat}, r ∈ L → s ∈ lookR F L
  | q :: L, h => by
    simp only [lookR]
    rcases List.mem_cons.mp h with rfl | h
    · rw [hb]; exact List.mem_cons_of_mem _ (List.mem_append_left _ hs)
    · exact List.mem_cons_of_mem _ (List.mem_append_right _ (lookR_in hb hs h))
omit DW in
theorem rowsV_frame {F F' : Fo} {v : V} (h : ∀ r ∈ refsV v, root F r = root F' r) : rowsV F v = rowsV F' v := by
  cases v with
  | sl r => simp only [rowsV, h r (by simp [refsV])]
  | tl r i => simp only [rowsV, h r (by simp [refsV])]
  | ns r i c => simp only [rowsV, h r (by simp [refsV])]
  | d x => cases x <;> rfl
  | _ => rfl
omit DW in
theorem lenV_frame {F F' : Fo} {v : V} (h : ∀ r ∈ refsV v, root F r = root F' r) : lenV F v = lenV F' v := by
  unfold lenV
  split
  · rename_i r; rw [h r (by simp [refsV])]
  · rw [rowsV_frame h]
omit DW in
theorem behindK_frame {R : Type} {F F' : Fo} {v : V} {sz : Nat} {k : List V → Option R} (h : ∀ r ∈ refsV v, root F r = root F' r) : behindK F v sz k = behindK F' v sz k := by
  cases v with
  | bp r j => simp only [behindK, h r (by simp [refsV])]
  | ptr r i j => simp only [behindK, h r (by simp [refsV])]
  | nptr r i j => simp only [behindK, h r (by simp [refsV])]
  | np r i m c => simp only [behindK, h r (by simp [refsV])]
  | _ => rfl
omit DW in
theorem opQ_frame {R : Type} {E : Env} {t : List V} {F F' : Fo} {op : Op} {k : V → Option R} (h : ∀ x ∈ op.operands, ∀ r ∈ refsV (val t x), root F r = root F' r) : opQ E t F op k = opQ E t F' op k := by
  cases op with
  | load ty x => simp only [opQ, behindK_frame (h x (by simp [Op.operands]))]
  | indexAddr ty x ix =>
    have hx := h x (by simp [Op.operands])
    simp only [opQ]
    generalize val t x = v at hx
    cases v with
    | sl r => simp only [hx r (by simp [refsV])]
    | tl r i => simp only [hx r (by simp [refsV])]
    | nsl r => simp only [hx r (by simp [refsV])]
    | ns r i c => simp only [hx r (by simp [refsV])]
    | d x => cases x <;> rfl
    | _ => rfl
  | lookup ty x ix ok =>
    have hx := h x (by simp [Op.operands])
    simp only [opQ]
    generalize val t x = v at hx
    cases v with
    | mp r => simp only [hx r (by simp [refsV])]
    | _ => rfl
  | convert src dst x =>
    have hx := rowsV_frame (h x (by simp [Op.operands]))
    simp only [opQ]
    split
    · rfl
    · rfl
    · simp only [hx]
  | call c =>
    simp only [opQ]
    split
    · rename_i x ty h1 h2 h3
      have hx := lenV_frame (h x (by
        have : x ∈ c.args := by
          have : x ∈ c.args.toList := by rw [h2]; simp
          simpa using this
        simp [Op.operands, Call.operands, this]))
      simp only [hx]
    · rfl
    · rfl
    · rfl
  | slice ty x lo hi mx => cases mx <;> rfl
  | makeFunc f first caps => cases f <;> rfl
  | _ => rfl
omit DW in
mutual
theorem subV_frame {f f' : Nat → V} {p p' : Nat → Nat → Nat → V} {b b' : Nat → Nat → V} : ∀ (v : V), (∀ r ∈ refsV v, f r = f' r ∧ (∀ i j, p r i j = p' r i j) ∧ ∀ j, b r j = b' r j) → subV f p b v = subV f' p' b' v
  | .d x, h => rfl
  | .agg cs, h => by simp only [subV, subL_frame cs (by simpa [refsV] using h)]
  | .tup cs, h => by simp only [subV, subL_frame cs (by simpa [refsV] using h)]
  | .bp r j, h => (h r (by simp [refsV])).2.2 j
  | .ptr r i j, h => (h r (by simp [refsV])).2.1 i j
  | .sl r, h => (h r (by simp [refsV])).1
  | .rp rows i j, h => rfl
  | .clo g cs, h => by simp only [subV, subL_frame cs (by simpa [refsV] using h)]
  | .tl r i, h => by simp only [subV, (h r (by simp [refsV])).1, (h r (by simp [refsV])).2.1 1 0]
  | .nsl r, h => by simp only [subV, (h r (by simp [refsV])).1]
  | .nptr r i j, h => by simp only [subV, (h r (by simp [refsV])).1]
  | .ns r i c, h => by simp only [subV, (h r (by simp [refsV])).1]
  | .np r i k c, h => by simp only [subV, (h r (by simp [refsV])).1]
  | .nt r i m, h => by simp only [subV, (h r (by simp [refsV])).1]
  | .lst T cs, h => by simp only [subV, subL_frame cs (by simpa [refsV] using h)]
  | .e0, h => rfl
  | .mp r, h => by simp only [subV, (h r (by simp [refsV])).2.2 0]
  | .dead, h => rfl
theorem subL_frame {f f' : Nat → V} {p p' : Nat → Nat → Nat → V} {b b' : Nat → Nat → V} : ∀ (vs : List V), (∀ r ∈ refsL vs, f r = f' r ∧ (∀ i j, p r i j = p' r i j) ∧ ∀ j, b r j = b' r j) → subL f p b vs = subL f' p' b' vs
  | [], h => rfl
  | v :: vs, h => by
    simp only [subL, subV_frame v (fun r hr => h r (by simp [refsL, hr])), subL_frame vs (fun r hr => h r (by simp [refsL, hr]))]
end
omit DW in
theorem lendCells_frame {F F' : Fo} : ∀ (cs : List V), (∀ r ∈ refsL cs, root F r = root F' r) → lendCells F cs = lendCells F' cs
  | [], h => rfl
  | c :: cs, h => by
    simp only [lendCells, lendCells_frame cs (fun r hr => h r (by simp [refsL, hr]))]
    cases c with
    | sl r => simp only [h r (by simp [refsL, refsV])]
    | nsl r => simp only [h r (by simp [refsL, refsV])]
    | _ => rfl
omit DW in
theorem refs_mem2 : ∀ {vs : List V} {v : V} {r : Nat}, v ∈ vs → r ∈ refsV v → r ∈ refsL vs
  | u :: vs, v, r, h, hr => by
    simp only [refsL]
    rcases List.mem_cons.mp h with rfl | h
    · exact List.mem_append_left _ hr
    · exact List.mem_append_right _ (refs_mem2 h hr)
omit DW in
theorem refsL_app : ∀ (us vs : List V), refsL (us ++ vs) = refsL us ++ refsL vs
  | [], vs => rfl
  | u :: us, vs => by simp [refsL, refsL_app us vs]
omit DW in
theorem refsL_mem : ∀ {vs : List V} {r : Nat}, r ∈ refsL vs → ∃ v ∈ vs, r ∈ refsV v
  | u :: vs, r, h => by
    simp only [refsL, List.mem_append] at h
    rcases h with h | h
    · exact ⟨u, by simp, h⟩
    · obtain ⟨v, h1, h2⟩ := refsL_mem h
      exact ⟨v, by simp [h1], h2⟩
omit DW in
theorem looks_op {t : List V} {o : Oper} {x : Operand} {r : Nat} (hx : x ∈ o.op.operands) (hr : r ∈ refsV (val t x)) : r ∈ refsL (mapO (val t) o.op.operands.toList) := by
  rw [mapO_eq]
  exact refs_mem2 (List.mem_map.mpr ⟨x, by simpa using hx, rfl⟩) hr
omit DW in
theorem argsV_refs {E : Env} {g : FuncId} {t : List V} {xs : List Operand} {r : Nat} (h : r ∈ refsL (argsV E g t xs)) : ∃ x ∈ xs, r ∈ refsV (val t x) := by
  have key : ∀ (f : Operand → V), (∀ x, ∀ r ∈ refsV (f x), r ∈ refsV (val t x)) → r ∈ refsL (mapO f xs) → ∃ x ∈ xs, r ∈ refsV (val t x) := by
    intro f hf h
    rw [mapO_eq] at h
    obtain ⟨v, h1, h2⟩ := refsL_mem h
    obtain ⟨x, h3, rfl⟩ := List.mem_map.mp h1
    exact ⟨x, h3, hf x r h2⟩
  unfold argsV at h
  split at h
  · refine key _ (fun x r hr => ?_) h
    unfold valX at hr
    split at hr
    · simp [refsV] at hr
    · exact hr
  · exact key _ (fun x r hr => hr) h
omit DW in
theorem looks_in {t : List V} {F : Fo} {o : Oper} {r : Nat} (h : r ∈ refsL (mapO (val t) o.op.operands.toList)) : r ∈ looks t F o := by
  unfold looks
  split
  · split
    · exact lookR_mem h
    · exact h
  · exact h
omit DW in
theorem looks_call {t : List V} {F : Fo} {o : Oper} {c : Call} {f : Operand} (ho : o.op = .call c) (hc : c.callee = .value f) : looks t F o = lookR F (refsL (mapO (val t) o.op.operands.toList)) := by
  unfold looks
  split
  · rename_i c' h1
    rw [ho] at h1; injection h1 with h1; subst h1
    split
    · rfl
    · rename_i h2; exact absurd hc (h2 f)
  · rename_i h1; exact absurd ho (h1 c)
omit DW in
theorem opD_frame {R : Type} {E : Env} {call : Ca} {t : List V} {F F' : Fo} {o : Oper} {k : V → Option R} (h : ∀ r ∈ looks t F o, root F r = root F' r) : opD E call o t F k = opD E call o t F' k := by
  have hop : ∀ x ∈ o.op.operands, ∀ r ∈ refsV (val t x), root F r = root F' r := fun x hx r hr => h r (looks_in (looks_op hx hr))
  unfold opD
  split
  · rename_i c ho
    split
    · rename_i f hc
      rw [looks_call ho hc] at h
      unfold opS
      rw [hc]
      simp only
      split
      · rename_i g caps hf
        split
        · have hargs : ∀ r ∈ refsL (argsV E g t c.args.toList ++ caps), r ∈ refsL (mapO (val t) o.op.operands.toList) := by
            intro r hr
            rw [refsL_app] at hr
            rcases List.mem_append.mp hr with hr | hr
            · obtain ⟨x, h1, h2⟩ := argsV_refs hr
              refine looks_op (x := x) ?_ h2
              rw [ho]
              simp [Op.operands, Call.operands, show x ∈ c.args by simpa using h1]
            · refine looks_op (x := f) ?_ (by rw [hf]; simpa [refsV] using hr)
              rw [ho]
              simp [Op.operands, Call.operands, hc]
          have e : subL (lendS F) (fun _ _ _ => .dead) (lendB F) (argsV E g t c.args.toList ++ caps) = subL (lendS F') (fun _ _ _ => .dead) (lendB F') (argsV E g t c.args.toList ++ caps) := by
            refine subL_frame _ fun r hr => ?_
            have h1 := h r (lookR_mem (hargs r hr))
            refine ⟨by simp only [lendS, h1], fun _ _ => rfl, fun j => ?_⟩
            unfold lendB
            rw [← h1]
            split
            · rename_i c0 cs hb
              rw [lendCells_frame (F' := F') (c0 :: cs) fun s hs => h s (lookR_in hb hs (hargs r hr))]
            · rfl
          rw [e]
        · rfl
      · rfl
    · rw [ho] at hop; exact opQ_frame hop
  · rfl
  · exact opQ_frame hop

end Go.Proofs.YtjnhclnnobejgaaE

/- The engine, between: a region that draws its order, on the machine; conditions: none. -/
import Derived.Test.YtjnhclnnobejgaaEw
namespace Go.Proofs.YtjnhclnnobejgaaE
open Go.RowKit
set_option linter.unusedVariables false
set_option linter.unusedSimpArgs false
variable [DW : Drw]

section
variable {R : Type} {E : Env} {call : Ca} {r : R} {ops : Array Oper} {k : List V → Fo → Option R} {ts : Nat → List V} {Fs : Nat → Fo} {W : Nat → V}

def wantB (ops : List Oper) (t : List V) (o : Oper) : Option Bool := wantV ops t o (some true) (some false)

/-- The roots that an operation turns, and those at which it looks. -/
def cOf (E : Env) (ops : List Oper) (t : List V) (F : Fo) (q : Nat) (o : Oper) : List Nat := match kindD E.scal E.pur o with
  | 2 => chgs E t F o
  | 4 => match makeK ops o with
    | 0 => match storeAt t o with
      | some s => [s]
      | none => []
    | 2 => []
    | 4 => []
    | _ => [q]
  | _ => []
def lOf (E : Env) (ops : List Oper) (t : List V) (F : Fo) (q : Nat) (o : Oper) : List Nat := match kindD E.scal E.pur o with
  | 1 => looks t F o
  | 4 => match makeK ops o with
    | 1 => q :: newL t o
    | 3 => q :: newL t o
    | _ => cOf E ops t F q o
  | _ => cOf E ops t F q o
omit DW in
theorem makeK_le (ops : List Oper) (o : Oper) : makeK ops o ≤ 4 := by
  unfold makeK
  repeat' split
  all_goals omega
omit DW in
theorem c_in_l {E : Env} {ops : List Oper} {t : List V} {F : Fo} {q : Nat} {o : Oper} {r : Nat} (h : r ∈ cOf E ops t F q o) : r ∈ lOf E ops t F q o := by
  unfold lOf
  split
  · rename_i hk; simp [cOf, hk] at h
  · rename_i hk
    split
    · rename_i hm; simp [cOf, hk, hm] at h; simp [h]
    · rename_i hm; simp [cOf, hk, hm] at h; simp [h]
    · exact h
  · exact h

/-- What an operation comes to. -/
inductive Did (E : Env) (call : Ca) (ops : List Oper) (o : Oper) (t : List V) (F : Fo) (q : Nat) : V → Fo → Prop where
  | quiet (v : V) (hk : kindD E.scal E.pur o = 0) (h : opD E call o t F some = some v) : Did E call ops o t F q v F
  | see (v : V) (hk : kindD E.scal E.pur o = 1) (h : opD E call o t F some = some v) : Did E call ops o t F q v F
  | turn (v : V) (F' : Fo) (hk : kindD E.scal E.pur o = 2) (h : opX E call o t F (fun v F => some (v, F)) = some (v, F')) : Did E call ops o t F q v F'
  | store (F' : Fo) (hk : kindD E.scal E.pur o = 4) (hs : makeK ops o = 0) (h : opS4 E t F o (fun F => some F) = some F') : Did E call ops o t F q .dead F'
  | nothing (hk : kindD E.scal E.pur o = 4) (hs : makeK ops o = 2) (he : emptyOK E o = true) : Did E call ops o t F q .e0 F
  | new (v : V) (F' : Fo) (hk : kindD E.scal E.pur o = 4) (hs : makeK ops o = 1 ∨ makeK ops o = 3) (h : opN E t o q F (fun v F => some (v, F)) = some (v, F')) : Did E call ops o t F q v F'

/-- One operation of the order written. -/
def Fact (E : Env) (call : Ca) (ops : Array Oper) (ts : Nat → List V) (Fs : Nat → Fo) (W : Nat → V) (Ls : Nat → Log) (Qs : Nat → Nat) (j : Nat) : Prop :=
  ∃ o, ops[j]? = some o ∧ ts (j + 1) = put (ts j) o.dst (W j) ∧ Qs j ≤ Qs (j + 1) ∧
    ((wantB ops.toList (ts j) o = some false ∧ W j = .tup [] ∧ Fs (j + 1) = Fs j ∧ Ls (j + 1) = Ls j) ∨
     (wantB ops.toList (ts j) o = some true ∧ Did E call ops.toList o (ts j) (Fs j) (Qs j) (W j) (Fs (j + 1)) ∧ allLt (Fs j).length (lOf E ops.toList (ts j) (Fs j) (Qs j) o) = true ∧
       (((kindD E.scal E.pur o = 0 ∨ (kindD E.scal E.pur o = 4 ∧ makeK ops.toList o = 2)) ∧ Ls (j + 1) = Ls j) ∨ (∃ app n, (app = true ↔ kindD E.scal E.pur o = 2) ∧ (app = true → n = (Fs j).length) ∧
         entOK (ancM ops.toList []) j app (cOf E ops.toList (ts j) (Fs j) (Qs j) o) (lOf E ops.toList (ts j) (Fs j) (Qs j) o) (Ls j) = true ∧ Ls (j + 1) = (j, app, cOf E ops.toList (ts j) (Fs j) (Qs j) o, lOf E ops.toList (ts j) (Fs j) (Qs j) o, n) :: Ls j))))

/-- Where the order may no longer turn. -/
def EndOf (E : Env) (call : Ca) (ops : Array Oper) (k : List V → Fo → Option R) (r : R) (ts : Nat → List V) (Fs : Nat → Fo) (p : Nat) : Prop :=
  (p = ops.size ∧ k (ts p) (Fs p) = some r) ∨
    ∃ rest z, ops[p]? = some z ∧ (kindD E.scal E.pur z = 3 ∨ tailB (ancM ops.toList []) p (ops.size - p) = true) ∧ (∀ j, rest[j]? = ops[p + j]?) ∧ rest.length + p = ops.size ∧ runOps E call ops.toList rest (ts p) (Fs p) k = some r

omit DW in
theorem kindD_le (sc pu : List Nat) (o : Oper) : kindD sc pu o ≤ 4 := by
  unfold kindD
  repeat' split
  all_goals omega
omit DW in
theorem trace : ∀ (l : List Oper) (i q : Nat) (t : List V) (F : Fo) (log : Log), (∀ j, l[j]? = ops[i + j]?) → l.length + i = ops.size → runD E call ops.toList (ancM ops.toList []) log i q l t F k = some r →
    ∃ p ts Fs W Ls Qs, i ≤ p ∧ ts i = t ∧ Fs i = F ∧ Ls i = log ∧ Qs i = q ∧ (∀ j, i ≤ j → j < p → Fact E call ops ts Fs W Ls Qs j) ∧ EndOf E call ops k r ts Fs p
  | [], i, q, t, F, log, hl, hn, h => ⟨i, fun _ => t, fun _ => F, fun _ => .dead, fun _ => log, fun _ => q, Nat.le_refl _, rfl, rfl, rfl, rfl, fun j h1 h2 => by omega, .inl ⟨by simpa using hn, by rw [runD] at h; exact h⟩⟩
  | o :: l, i, q, t, F, log, hl, hn, h => by
    have ho : ops[i]? = some o := by simpa using (hl 0).symm
    have hl' : ∀ j, l[j]? = ops[(i + 1) + j]? := fun j => by
      have := hl (j + 1)
      rw [List.getElem?_cons_succ] at this
      rw [this]; congr 1; omega
    have hn' : l.length + (i + 1) = ops.size := by simp only [List.length_cons] at hn; omega
    have glue : ∀ (v : V) (F1 : Fo) (lg : Log) (q1 : Nat), runD E call ops.toList (ancM ops.toList []) lg (i + 1) q1 l (put t o.dst v) F1 k = some r → q ≤ q1 →
        ((wantB ops.toList t o = some false ∧ v = .tup [] ∧ F1 = F ∧ lg = log) ∨
         (wantB ops.toList t o = some true ∧ Did E call ops.toList o t F q v F1 ∧ allLt F.length (lOf E ops.toList t F q o) = true ∧
           (((kindD E.scal E.pur o = 0 ∨ (kindD E.scal E.pur o = 4 ∧ makeK ops.toList o = 2)) ∧ lg = log) ∨ (∃ app n, (app = true ↔ kindD E.scal E.pur o = 2) ∧ (app = true → n = F.length) ∧
             entOK (ancM ops.toList []) i app (cOf E ops.toList t F q o) (lOf E ops.toList t F q o) log = true ∧ lg = (i, app, cOf E ops.toList t F q o, lOf E ops.toList t F q o, n) :: log)))) →
        ∃ p ts Fs W Ls Qs, i ≤ p ∧ ts i = t ∧ Fs i = F ∧ Ls i = log ∧ Qs i = q ∧ (∀ j, i ≤ j → j < p → Fact E call ops ts Fs W Ls Qs j) ∧ EndOf E call ops k r ts Fs p := by
      intro v F1 lg q1 h1 h3 h4
      obtain ⟨p, ts, Fs, W, Ls, Qs, g1, g2, g3, gL, gQ, g4, g5⟩ := trace l (i + 1) q1 _ _ lg hl' hn' h1
      refine ⟨p, fun j => if j = i then t else ts j, fun j => if j = i then F else Fs j, fun j => if j = i then v else W j, fun j => if j = i then log else Ls j, fun j => if j = i then q else Qs j, by omega, if_pos rfl, if_pos rfl, if_pos rfl, if_pos rfl, fun j h5 h6 => ?_, ?_⟩
      · by_cases hj : j = i
        · subst hj
          refine ⟨o, ho, ?_, ?_, ?_⟩
          · simp only [if_true]
            rw [if_neg (by omega), g2]
          · simp only [if_true]
            rw [if_neg (by omega), gQ]; exact h3
          · simp only [if_true]
            rw [if_neg (show ¬ j + 1 = j by omega), if_neg (show ¬ j + 1 = j by omega), g3, gL]
            exact h4
        · obtain ⟨o', k1, k2, k3, k4⟩ := g4 j (by omega) h6
          refine ⟨o', k1, ?_, ?_, ?_⟩
          · simp only [if_neg hj]
            rw [if_neg (by omega)]
            exact k2
          · simp only [if_neg hj]
            rw [if_neg (by omega)]
            exact k3
          · simp only [if_neg hj]
            rw [if_neg (show ¬ j + 1 = i by omega), if_neg (show ¬ j + 1 = i by omega)]
            exact k4
      · unfold EndOf at g5 ⊢
        simp only [if_neg (show ¬ p = i by omega)]
        exact g5
    have stop : (kindD E.scal E.pur o = 3 ∨ tailB (ancM ops.toList []) i (ops.size - i) = true) → runOps E call ops.toList (o :: l) t F k = some r →
        ∃ p ts Fs W Ls Qs, i ≤ p ∧ ts i = t ∧ Fs i = F ∧ Ls i = log ∧ Qs i = q ∧ (∀ j, i ≤ j → j < p → Fact E call ops ts Fs W Ls Qs j) ∧ EndOf E call ops k r ts Fs p := fun hk h =>
      ⟨i, fun _ => t, fun _ => F, fun _ => .dead, fun _ => log, fun _ => q, Nat.le_refl _, rfl, rfl, rfl, rfl, fun j h1 h2 => by omega, .inr ⟨o :: l, o, ho, hk, hl, hn, h⟩⟩
    simp only [runD, oneD, putK_eq, spine_eq, forceNs_eq, forceN_eq] at h
    split at h
    · rename_i hk
      exact stop (.inl hk) h
    · rename_i hk
      split at h
      · rename_i hs
        split at h
        · rename_i s hst
          have hc : cOf E ops.toList t F q o = [s] := by simp only [cOf, hk, hs, hst]
          have hll : lOf E ops.toList t F q o = [s] := by simp only [lOf, hk, hs]; exact hc
          rcases want_uni (q := true) h with ⟨h1, hw⟩ | ⟨h1, hw⟩
          · split at h1
            case h_2 => simp at h1
            rename_i c1 c2
            obtain ⟨s', X, e1, _, h2, h3, _⟩ := opS4_one (call := call) (Q := Fo) h1
            exact glue .dead _ _ q h2 (Nat.le_refl _) (.inr ⟨hw _ _, .store _ hk hs (h3 F _ rfl), by rw [hll]; exact c1, .inr ⟨false, 0, by rw [hk]; simp, fun h => by simp at h, by rw [hc, hll]; exact c2, by rw [hc, hll]⟩⟩)
          · exact glue (.tup []) F log q h1 (Nat.le_refl _) (.inl ⟨hw _ _, rfl, rfl, rfl⟩)
        · split at h
          · rename_i ht
            exact stop (.inr (by simpa using ht)) h
          · simp at h
      · rename_i hs
        have hll : lOf E ops.toList t F q o = [] := by simp only [lOf, cOf, hk, hs]
        split at h
        case h_2 => simp at h
        rename_i he
        rcases want_uni (q := true) h with ⟨h1, hw⟩ | ⟨h1, hw⟩
        · exact glue .e0 F log q h1 (Nat.le_refl _) (.inr ⟨hw _ _, .nothing hk hs he, by rw [hll]; rfl, .inl ⟨.inr ⟨hk, hs⟩, rfl⟩⟩)
        · simp at h1
      · split at h
        · rename_i ht
          exact stop (.inr (by simpa using ht)) h
        · simp at h
      · rename_i n0 n2 n4
        have hs : makeK ops.toList o = 1 ∨ makeK ops.toList o = 3 := by
          have := makeK_le ops.toList o
          have m0 : makeK ops.toList o ≠ 0 := n0
          have m2 : makeK ops.toList o ≠ 2 := n2
          have m4 : makeK ops.toList o ≠ 4 := n4
          omega
        have hc : cOf E ops.toList t F q o = [q] := by rcases hs with hs | hs <;> simp only [cOf, hk, hs]
        have hll : lOf E ops.toList t F q o = q :: newL t o := by rcases hs with hs | hs <;> simp only [lOf, hk, hs]
        split at h
        case h_2 => simp at h
        rename_i c1 c2
        rcases want_uni (q := true) h with ⟨h1, hw⟩ | ⟨h1, hw⟩
        · obtain ⟨v, X, e1, e2, h2, h3⟩ := opN_one (Q := V × Fo) h1
          exact glue v _ _ (q + 1) h2 (by omega) (.inr ⟨hw _ _, .new v _ hk hs (h3 F _ e1 e2 fun _ _ => rfl), by rw [hll]; exact c1, .inr ⟨false, 0, by rw [hk]; simp, fun h => by simp at h, by rw [hc, hll]; exact c2, by rw [hc, hll]⟩⟩)
        · simp at h1
    · rename_i hk
      have hc : cOf E ops.toList t F q o = chgs E t F o := by simp only [cOf, hk]
      have hll : lOf E ops.toList t F q o = chgs E t F o := by unfold lOf; rw [hk]; exact hc
      split at h
      · split at h
        · rename_i ht
          exact stop (.inr (by simpa using ht)) h
        · simp at h
      rcases want_uni (q := true) h with ⟨h1, hw⟩ | ⟨h1, hw⟩
      · split at h1
        case h_2 => simp at h1
        rename_i c1 c2
        obtain ⟨v, F1, h2, h3⟩ := opX_one (Q := V × Fo) h1
        exact glue v F1 _ q h2 (Nat.le_refl _) (.inr ⟨hw _ _, .turn v F1 hk (h3 _), by rw [hll]; exact c1, .inr ⟨true, F.length, by rw [hk]; simp, fun _ => rfl, by rw [hc, hll]; exact c2, by rw [hc, hll]⟩⟩)
      · exact glue (.tup []) F log q h1 (Nat.le_refl _) (.inl ⟨hw _ _, rfl, rfl, rfl⟩)
    · rename_i hk
      have hc : cOf E ops.toList t F q o = [] := by simp only [cOf, hk]
      have hll : lOf E ops.toList t F q o = looks t F o := by simp only [lOf, hk]
      rcases want_uni (q := true) h with ⟨h1, hw⟩ | ⟨h1, hw⟩
      · split at h1
        case h_2 => simp at h1
        rename_i c1 c2
        obtain ⟨v, h2, h3⟩ := opD_one h1
        exact glue v F _ q h2 (Nat.le_refl _) (.inr ⟨hw _ _, .see v hk h3, by rw [hll]; exact c1, .inr ⟨false, 0, by rw [hk]; simp, fun h => by simp at h, by rw [hc, hll]; exact c2, by rw [hc, hll]⟩⟩)
      · exact glue (.tup []) F log q h1 (Nat.le_refl _) (.inl ⟨hw _ _, rfl, rfl, rfl⟩)
    · rename_i hk3 hk4 hk2 hk1
      have hk0 : kindD E.scal E.pur o = 0 := by
        have := kindD_le E.scal E.pur o
        have e3 : kindD E.scal E.pur o ≠ 3 := hk3
        have e4 : kindD E.scal E.pur o ≠ 4 := hk4
        have e2 : kindD E.scal E.pur o ≠ 2 := hk2
        have e1 : kindD E.scal E.pur o ≠ 1 := hk1
        omega
      have hll : lOf E ops.toList t F q o = [] := by simp only [lOf, cOf, hk0]
      rcases want_uni (q := true) h with ⟨h1, hw⟩ | ⟨h1, hw⟩
      · obtain ⟨v, h2, h3⟩ := opD_one h1
        exact glue v F log q h2 (Nat.le_refl _) (.inr ⟨hw _ _, .quiet v hk0 h3, by rw [hll]; rfl, .inl ⟨.inl hk0, rfl⟩⟩)
      · exact glue (.tup []) F log q h1 (Nat.le_refl _) (.inl ⟨hw _ _, rfl, rfl, rfl⟩)

/-! ### Slots after some of the operations -/

def Lp (listed : Array Bool) (i : Nat) : Prop := listed.getD i false = true

/-- The slots when just these operations have been. -/
def Mix (ops : Array Oper) (t0 : List V) (W : Nat → V) (L : Nat → Prop) (t : List V) : Prop :=
  t.length = t0.length ∧ ∀ (s : Nat) (c : V), t[s]? = some c → (∃ i o, ops[i]? = some o ∧ o.dst = some s ∧ L i ∧ c = W i) ∨ ((∀ i o, ops[i]? = some o → o.dst = some s → ¬ L i) ∧ t0[s]? = some c)

omit DW in
theorem Mix.iff {t0 t : List V} {L L' : Nat → Prop} (h : Mix ops t0 W L t) (hL : ∀ i, L i ↔ L' i) : Mix ops t0 W L' t :=
  ⟨h.1, fun s c hs => by
    rcases h.2 s c hs with ⟨i, o, h1, h2, h3, h4⟩ | ⟨h1, h2⟩
    · exact .inl ⟨i, o, h1, h2, (hL i).mp h3, h4⟩
    · exact .inr ⟨fun i o g1 g2 g3 => h1 i o g1 g2 ((hL i).mpr g3), h2⟩⟩

omit DW in
theorem Mix.put {t0 t : List V} {L : Nat → Prop} (h : Mix ops t0 W L t) {i : Nat} {o : Oper} (ho : ops[i]? = some o) : Mix ops t0 W (fun j => L j ∨ j = i) (put t o.dst (W i)) := by
  cases hd : o.dst with
  | none =>
    refine ⟨h.1, fun s c hs => ?_⟩
    rcases h.2 s c hs with ⟨j, y, h1, h2, h3, h4⟩ | ⟨h1, h2⟩
    · exact .inl ⟨j, y, h1, h2, .inl h3, h4⟩
    · refine .inr ⟨fun j y g1 g2 g3 => ?_, h2⟩
      rcases g3 with g3 | g3
      · exact h1 j y g1 g2 g3
      · subst g3
        rw [ho] at g1; injection g1 with g1; subst g1
        rw [hd] at g2; simp at g2
  | some d =>
    refine ⟨by simp [Go.Proofs.YtjnhclnnobejgaaE.put, h.1], fun s c hs => ?_⟩
    simp only [Go.Proofs.YtjnhclnnobejgaaE.put] at hs
    rw [List.getElem?_set] at hs
    split at hs
    · rename_i hds
      subst hds
      split at hs
      · injection hs with hs
        exact .inl ⟨i, o, ho, hd, .inr rfl, hs.symm⟩
      · simp at hs
    · rename_i hds
      rcases h.2 s c hs with ⟨j, y, h1, h2, h3, h4⟩ | ⟨h1, h2⟩
      · exact .inl ⟨j, y, h1, h2, .inl h3, h4⟩
      · refine .inr ⟨fun j y g1 g2 g3 => ?_, h2⟩
        rcases g3 with g3 | g3
        · exact h1 j y g1 g2 g3
        · subst g3
          rw [ho] at g1; injection g1 with g1; subst g1
          rw [hd] at g2; injection g2 with g2
          exact hds g2

omit DW in
theorem Mix.agree {t0 t t' : List V} {L L' : Nat → Prop} (hdst : ∀ (i j : Nat) (x y : Oper) (d : Nat), ops[i]? = some x → ops[j]? = some y → x.dst = some d → y.dst = some d → i = j)
    (h : Mix ops t0 W L t) (h' : Mix ops t0 W L' t') (s : Nat) (hs : ∀ j y, ops[j]? = some y → y.dst = some s → (L j ↔ L' j)) : t[s]? = t'[s]? := by
  by_cases hlt : s < t0.length
  · have e1 : t[s]? = some (t[s]'(by rw [h.1]; exact hlt)) := by simp [h.1, hlt]
    have e2 : t'[s]? = some (t'[s]'(by rw [h'.1]; exact hlt)) := by simp [h'.1, hlt]
    rw [e1, e2]
    congr 1
    rcases h.2 s _ e1 with ⟨i, o, a1, a2, a3, a4⟩ | ⟨a1, a2⟩
    · rcases h'.2 s _ e2 with ⟨j, y, b1, b2, b3, b4⟩ | ⟨b1, b2⟩
      · have := hdst i j o y s a1 b1 a2 b2
        subst this
        rw [a4, b4]
      · exact absurd ((hs i o a1 a2).mp a3) (b1 i o a1 a2)
    · rcases h'.2 s _ e2 with ⟨j, y, b1, b2, b3, b4⟩ | ⟨b1, b2⟩
      · exact absurd ((hs j y b1 b2).mpr b3) (a1 j y b1 b2)
      · rw [a2] at b2; injection b2
  · rw [List.getElem?_eq_none (by rw [h.1]; omega), List.getElem?_eq_none (by rw [h'.1]; omega)]

omit DW in
theorem nth_eq : ∀ {t t' : List V} {s : Nat}, t[s]? = t'[s]? → nth t s = nth t' s
  | [], [], s, h => rfl
  | [], c :: t', 0, h => by simp at h
  | [], c :: t', s + 1, h => by simp only [nth]; exact nth_eq (t := []) (by simpa using h)
  | c :: t, [], 0, h => by simp at h
  | c :: t, [], s + 1, h => by simp only [nth]; exact nth_eq (t' := []) (by simpa using h)
  | c :: t, c' :: t', 0, h => by simpa [nth] using h
  | c :: t, c' :: t', s + 1, h => by simp only [nth]; exact nth_eq (by simpa using h)

omit DW in
theorem look_val {o : Oper} {t t' : List V} (h : ∀ s ∈ o.looksAt ops, t[s]? = t'[s]?) : ∀ x ∈ o.op.operands, val t x = val t' x := by
  intro x hx
  cases x with
  | tmp s =>
    simp only [val]
    exact nth_eq (h s (by
      unfold Oper.looksAt
      exact List.mem_append_left _ (List.mem_filterMap.2 ⟨.tmp s, by simpa using hx, rfl⟩)))
  | const v => cases v <;> rfl
  | func f => rfl
  | global g => rfl

omit DW in
theorem look_want {o : Oper} {t t' : List V} (h : ∀ s ∈ o.looksAt ops, t[s]? = t'[s]?) : wantB ops.toList t o = wantB ops.toList t' o := by
  unfold wantB wantV
  split
  · rfl
  · rename_i j want hg
    split
    · rename_i d hd
      have hdst : (ops[j]?).bind (·.dst) = some d := by
        unfold dstOf at hd
        split at hd
        · rename_i o' ho'
          have : ops[j]? = some o' := by simpa using ho'
          rw [this]; exact hd
        · simp at hd
      have : nth t d = nth t' d := nth_eq (h d (by
        unfold Oper.looksAt
        rw [hg]
        exact List.mem_append_right _ (by simp [hdst])))
      rw [this]
    · rfl

end
end Go.Proofs.YtjnhclnnobejgaaE

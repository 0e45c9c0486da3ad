/- The engine, between: what an operation hands on, whatever comes after it; conditions: none. -/
import Derived.Test.YtjnhclnnobejgaaEl
namespace Go.Proofs.YtjnhclnnobejgaaE
set_option linter.unusedVariables false
set_option linter.unusedSimpArgs false
variable [DW : Drw]

section
variable {R R' : Type} {E : Env} {r : R}

omit DW in
theorem cut_uni {t : List V} {x : Option Operand} {z : Int} {k : Int → Option R} (h : cutV t x z k = some r) : ∃ q, k q = some r ∧ ∀ k' : Int → Option R', cutV t x z k' = k' q := by
  unfold cutV at h ⊢
  split at h
  · exact ⟨z, h, fun k' => rfl⟩
  · split at h
    · rename_i hv; exact ⟨_, h, fun k' => by simp only [hv]⟩
    · simp at h

omit DW in
theorem fill_uni {places : List (Nat × Nat)} {t : List V} : ∀ (ps : List (Nat × Operand)) (cs : List V) (k : List V → Option R), fillV places t ps cs k = some r → ∃ cs', k cs' = some r ∧ ∀ k' : List V → Option R', fillV places t ps cs k' = k' cs'
  | [], cs, k, h => ⟨cs, h, fun k' => rfl⟩
  | (i, x) :: ps, cs, k, h => by
    simp only [fillV, forceAll_eq] at h ⊢
    split at h
    case h_2 => simp at h
    rename_i off n hp
    split at h
    case h_2 => simp at h
    rename_i c1 c2 c3
    obtain ⟨cs', h1, h2⟩ := fill_uni ps _ k h
    exact ⟨cs', h1, fun k' => by simp only [hp, c1, c2, c3, h2]⟩

omit DW in
theorem opQ_uni {t : List V} {F : Fo} {op : Op} {k : V → Option R} (h : opQ E t F op k = some r) : ∃ v, k v = some r ∧ ∀ k' : V → Option R', opQ E t F op k' = k' v := by
  by_cases hs : ∃ ty x lo hi mx, op = .slice ty x lo hi mx
  · obtain ⟨ty, x, lo, hi, mx, rfl⟩ := hs
    simp only [opQ] at h ⊢
    split at h
    · simp at h
    split at h
    · rename_i hx
      split at h
      case h_2 => simp at h
      rename_i hi'
      split at h
      case h_2 => simp at h
      rename_i hd
      obtain ⟨l, h, hl⟩ := cut_uni (R' := R') h
      obtain ⟨u, h, hu⟩ := cut_uni (R' := R') h
      split at h
      case h_2 => simp at h
      rename_i c1 c2 c3
      exact ⟨_, h, fun k' => by simp only [hx, hi', hd, hl, hu, c1, c2, c3]⟩
    · rename_i hx
      split at h
      case h_2 => simp at h
      rename_i hi'
      split at h
      case h_2 => simp at h
      rename_i hd
      split at h
      case h_2 => simp at h
      rename_i hn
      split at h
      case h_2 => simp at h
      rename_i a1 a2
      obtain ⟨l, h, hl⟩ := cut_uni (R' := R') h
      obtain ⟨u, h, hu⟩ := cut_uni (R' := R') h
      split at h
      case h_2 => simp at h
      rename_i c1 c2 c3
      exact ⟨_, h, fun k' => by simp only [hx, hi', hd, hn, a1, a2, hl, hu, c1, c2, c3]⟩
    · simp at h
  · cases op with
    | load ty x =>
      simp only [opQ, behindK_eq] at h ⊢
      repeat' split at h
      all_goals first
        | (simp at h; done)
        | exact ⟨_, h, fun k' => by simp only [*]⟩
    | slice ty x lo hi mx => exact absurd ⟨ty, x, lo, hi, mx, rfl⟩ hs
    | makeFunc fn first caps =>
      cases fn with
      | func f =>
        simp only [opQ] at h ⊢
        split at h
        · rename_i hf; exact ⟨_, h, fun k' => by simp only [hf]⟩
        · simp at h
      | _ => simp [opQ] at h
    | build ty ps =>
      simp only [opQ] at h ⊢
      split at h
      case h_2 => simp at h
      rename_i c1
      split at h
      case h_2 => simp at h
      rename_i c2
      split at h
      case h_2 => simp at h
      rename_i c3
      obtain ⟨cs', h1, h2⟩ := fill_uni (R' := R') _ _ _ h
      exact ⟨_, h1, fun k' => by simp only [c1, c2, c3, h2]⟩
    | call c =>
      simp only [opQ] at h ⊢
      split at h
      · rename_i h1 h2 h3
        repeat' split at h
        all_goals first
          | (simp at h; done)
          | exact ⟨_, h, fun k' => by simp only [*]⟩
      · rename_i h1 h2
        split at h
        · rename_i a b; exact ⟨_, h, fun k' => by simp only [a, b]⟩
        · rename_i a b; exact ⟨_, h, fun k' => by simp only [a, b]⟩
        · simp at h
      · rename_i h1 h2
        split at h
        · rename_i a b; exact ⟨_, h, fun k' => by simp only [a, b]⟩
        · rename_i a b; exact ⟨_, h, fun k' => by simp only [a, b]⟩
        · simp at h
      · simp at h
    | _ =>
      simp only [opQ] at h ⊢
      first
        | exact ⟨_, h, fun k' => rfl⟩
        | (repeat' split at h)
          all_goals first
            | (simp at h; done)
            | exact ⟨_, h, fun k' => by simp only [*]⟩

omit DW in
theorem frzCells_uni : ∀ (cs t : List V) (F : Fo) (k : List D → List V → Fo → Option R), frzCells cs t F k = some r → ∃ ds t' F', k ds t' F' = some r ∧ ∀ k' : List D → List V → Fo → Option R', frzCells cs t F k' = k' ds t' F'
  | [], t, F, k, h => ⟨[], t, F, h, fun k' => rfl⟩
  | c :: cs, t, F, k, h => by
    simp only [frzCells] at h ⊢
    split at h
    · split at h
      case h_2 => simp at h
      rename_i c1
      obtain ⟨ds, t', F', h1, h2⟩ := frzCells_uni cs t F _ h
      exact ⟨_, t', F', h1, fun k' => by simp only [c1, h2]⟩
    · split at h
      case h_2 => simp at h
      rename_i c1
      obtain ⟨ds, t', F', h1, h2⟩ := frzCells_uni cs _ _ _ h
      exact ⟨_, t', F', h1, fun k' => by simp only [c1, h2]⟩
    · simp at h

omit DW in
theorem frzParts_uni (size : Nat) : ∀ (ps : List (Nat × Operand)) (n : Nat) (t : List V) (F : Fo) (k : List (List D) → List V → Fo → Option R), opE.frzParts size n ps t F k = some r →
    ∃ rows t' F', k rows t' F' = some r ∧ ∀ k' : List (List D) → List V → Fo → Option R', opE.frzParts size n ps t F k' = k' rows t' F'
  | [], n, t, F, k, h => ⟨[], t, F, h, fun k' => rfl⟩
  | (i, x) :: ps, n, t, F, k, h => by
    simp only [opE.frzParts] at h ⊢
    split at h
    case h_2 => simp at h
    rename_i c1 c2
    obtain ⟨ds, t1, F1, h1, h2⟩ := frzCells_uni (R' := R') _ _ _ _ h
    obtain ⟨rows, t', F', g1, g2⟩ := frzParts_uni size ps (n + 1) t1 F1 _ h1
    exact ⟨_, t', F', g1, fun k' => by simp only [c1, c2, h2, g2]⟩

omit DW in
theorem frzAll_uni : ∀ (rs : List Nat) (vs t : List V) (F : Fo) (k : List V → List V → Fo → Option R), frzAll rs vs t F k = some r → ∃ vs' t' F', k vs' t' F' = some r ∧ ∀ k' : List V → List V → Fo → Option R', frzAll rs vs t F k' = k' vs' t' F'
  | [], vs, t, F, k, h => ⟨vs, t, F, h, fun k' => rfl⟩
  | s :: rs, vs, t, F, k, h => by
    simp only [frzAll, forceAll_eq, forceF_eq] at h ⊢
    split at h
    · rename_i c1
      obtain ⟨vs', t', F', h1, h2⟩ := frzAll_uni rs _ _ _ k h
      exact ⟨vs', t', F', h1, fun k' => by simp only [c1, h2]⟩
    · rename_i c1
      obtain ⟨vs', t', F', h1, h2⟩ := frzAll_uni rs _ _ _ k h
      exact ⟨vs', t', F', h1, fun k' => by simp only [c1, h2]⟩
    · rename_i c1
      obtain ⟨vs', t', F', h1, h2⟩ := frzAll_uni rs vs t F k h
      exact ⟨vs', t', F', h1, fun k' => h2 k'⟩

omit DW in
theorem newK_uni {e : TypeId} {es : Nat} {rows : List (List D)} {F : Fo} {k : V → Fo → Option R} (h : newK E e es rows F k = some r) : ∃ v F', k v F' = some r ∧ ∀ k' : V → Fo → Option R', newK E e es rows F k' = k' v F' := by
  unfold newK at h ⊢
  split at h
  · exact ⟨_, _, h, fun k' => rfl⟩
  · exact ⟨_, _, h, fun k' => rfl⟩

omit DW in
theorem newK_some {e : TypeId} {es : Nat} {rows : List (List D)} {F FN : Fo} {v : V} (h : newK E e es rows F (fun v F => some (v, F)) = some (v, FN)) :
    ∃ R : Root, FN = F ++ [some R] ∧ ∀ {Q : Type} (F' : Fo) (k : V → Fo → Option Q), F'.length = F.length → newK E e es rows F' k = k v (F' ++ [some R]) := by
  unfold newK at h ⊢
  split at h
  · simp only [Option.some.injEq, Prod.mk.injEq] at h
    obtain ⟨rfl, rfl⟩ := h
    exact ⟨_, rfl, fun F' k hl => by rw [hl]⟩
  · simp only [Option.some.injEq, Prod.mk.injEq] at h
    obtain ⟨rfl, rfl⟩ := h
    exact ⟨_, rfl, fun F' k hl => by rw [hl]⟩
omit DW in
theorem newQ_uni {e : TypeId} {es : Nat} {rows : List (List D)} {q : Nat} {F : Fo} {k : V → Fo → Option R} (h : newQ E e es rows q F k = some r) :
    ∃ (v : V) (Rt : Root), k v (F.set q (some Rt)) = some r ∧ ∀ (G : Fo) (k' : V → Fo → Option R'), newQ E e es rows q G k' = k' v (G.set q (some Rt)) := by
  unfold newQ at h ⊢
  split at h
  · exact ⟨_, _, h, fun G k' => rfl⟩
  · exact ⟨_, _, h, fun G k' => rfl⟩
omit DW in
theorem nilS_uni {t : List V} {F : Fo} {o : Oper} {k : V → List V → Fo → Option R} (h : opE.nilS E t F o k = some r) : ∃ v t' F', k v t' F' = some r ∧ ∀ k' : V → List V → Fo → Option R', opE.nilS E t F o k' = k' v t' F' := by
  simp only [opE.nilS] at h ⊢
  repeat' split at h
  all_goals first
    | (simp at h; done)
    | (obtain ⟨v1, F1, g1, g2⟩ := newK_uni (R' := R') h
       clear h
       exact ⟨_, _, _, g1, fun k' => by simp only [*]⟩)

omit DW in
theorem bldN_uni {R R' : Type} {E : Env} {r : R} {t : List V} {F : Fo} {ty : TypeId} {ps : List (Nat × Operand)} {k : V → Fo → Option R} (h : bldN E t F ty ps k = some r) : ∃ v F', k v F' = some r ∧ ∀ k' : V → Fo → Option R', bldN E t F ty ps k' = k' v F' := by
  simp only [bldN, bldOn] at h ⊢
  split at h
  case h_2 => simp at h
  split at h
  case h_2 => simp at h
  split at h
  case h_2 => simp at h
  obtain ⟨cs, h1, h2⟩ := fill_uni (R' := R') _ _ _ h
  exact ⟨_, _, h1, fun k' => by simp only [*]⟩

omit DW in
theorem storeN_uni {size s i j : Nat} {cs t : List V} {F : Fo} {k : V → List V → Fo → Option R} (h : storeN size s i j cs t F k = some r) : ∃ v t' F', k v t' F' = some r ∧ ∀ k' : V → List V → Fo → Option R', storeN size s i j cs t F k' = k' v t' F' := by
  unfold storeN at h ⊢
  simp only [forceAll_eq, forceF_eq] at h ⊢
  repeat' split at h
  all_goals first
    | (simp at h; done)
    | exact ⟨_, _, _, h, fun k' => by simp only [*]⟩
omit DW in
theorem storeNp_uni {size s i q c : Nat} {cs t : List V} {F : Fo} {k : V → List V → Fo → Option R} (h : storeNp size s i q c cs t F k = some r) : ∃ v t' F', k v t' F' = some r ∧ ∀ k' : V → List V → Fo → Option R', storeNp size s i q c cs t F k' = k' v t' F' := by
  unfold storeNp at h ⊢
  repeat' split at h
  all_goals first
    | (simp at h; done)
    | exact ⟨_, _, _, h, fun k' => by simp only [*]⟩

omit DW in
theorem appN_uni {e size bytes s : Nat} {cs t : List V} {F : Fo} {k : V → List V → Fo → Option R} (h : appN e size bytes s cs t F k = some r) : ∃ v t' F', k v t' F' = some r ∧ ∀ k' : V → List V → Fo → Option R', appN e size bytes s cs t F k' = k' v t' F' := by
  unfold appN at h ⊢
  simp only [forceAll_eq, forceF_eq] at h ⊢
  repeat' split at h
  all_goals first
    | (simp at h; done)
    | exact ⟨_, _, _, h, fun k' => by simp only [*]⟩
omit DW in
theorem appNN_uni {e size bytes s r2 : Nat} {t : List V} {F : Fo} {k : V → List V → Fo → Option R} (h : appNN e size bytes s r2 t F k = some r) : ∃ v t' F', k v t' F' = some r ∧ ∀ k' : V → List V → Fo → Option R', appNN e size bytes s r2 t F k' = k' v t' F' := by
  unfold appNN at h ⊢
  simp only [forceAll_eq, forceF_eq] at h ⊢
  repeat' split at h
  all_goals first
    | (simp at h; done)
    | exact ⟨_, _, _, h, fun k' => by simp only [*]⟩
omit DW in
theorem bld1_uni {e size n : Nat} {t : List V} {F : Fo} {ps : List (Nat × Operand)} {k : V → List V → Fo → Option R} {k2 : Option R} (h : bld1 E e size n t F ps k k2 = some r) :
    (k2 = some r ∧ ∀ (k' : V → List V → Fo → Option R') (k2' : Option R'), bld1 E e size n t F ps k' k2' = k2') ∨ ∃ v t' F', k v t' F' = some r ∧ ∀ (k' : V → List V → Fo → Option R') (k2' : Option R'), bld1 E e size n t F ps k' k2' = k' v t' F' := by
  unfold bld1 at h ⊢
  simp only [forceAll_eq, forceF_eq] at h ⊢
  repeat' split at h
  all_goals first
    | (simp at h; done)
    | exact .inr ⟨_, _, _, h, fun k' k2' => by simp only [*]⟩
    | exact .inl ⟨h, fun k' k2' => by simp only [*]⟩

omit DW in
theorem opE_uni {t : List V} {F : Fo} {o : Oper} {k : V → List V → Fo → Option R} (h : opE E t F o k = some r) : ∃ v t' F', k v t' F' = some r ∧ ∀ k' : V → List V → Fo → Option R', opE E t F o k' = k' v t' F' := by
  unfold opE at h
  split at h
  · rename_i ty ho
    split at h
    case h_2 => simp at h
    rename_i c1
    exact ⟨_, _, _, h, fun k' => by simp only [opE, ho, c1]⟩
  · rename_i ty x ho
    split at h
    case h_2 => simp at h
    rename_i c1
    exact ⟨_, _, _, h, fun k' => by simp only [opE, ho, c1]⟩
  · rename_i ty l c ho
    repeat' split at h
    all_goals first
      | (simp at h; done)
      | (obtain ⟨v1, F1, g1, g2⟩ := newK_uni (R' := R') h
         clear h
         exact ⟨_, _, _, g1, fun k' => by simp only [opE, ho]; simp only [*]⟩)
  · rename_i ty x v ho
    split at h
    case h_2 => simp at h
    rename_i c1
    split at h
    case h_2 => simp at h
    rename_i c2
    split at h
    · rename_i c3
      repeat' split at h
      all_goals first
        | (simp at h; done)
        | exact ⟨_, _, _, h, fun k' => by simp only [opE, ho]; simp only [*]⟩
    · rename_i c3
      obtain ⟨ds, t1, F1, h1, h2⟩ := frzCells_uni (R' := R') _ _ _ _ h
      repeat' split at h1
      all_goals first
        | (simp at h1; done)
        | exact ⟨_, _, _, h1, fun k' => by simp only [opE, ho]; simp only [*]⟩
    · rename_i c3
      obtain ⟨v', t1, F1, h1, h2⟩ := storeN_uni (R' := R') h
      exact ⟨_, _, _, h1, fun k' => by simp only [opE, ho, c1, c2, c3]; exact h2 k'⟩
    · rename_i c3
      obtain ⟨v', t1, F1, h1, h2⟩ := storeNp_uni (R' := R') h
      exact ⟨_, _, _, h1, fun k' => by simp only [opE, ho, c1, c2, c3]; exact h2 k'⟩
    · simp at h
  · rename_i c ho
    repeat' split at h
    all_goals first
      | (simp at h; done)
      | (obtain ⟨v, t', F', h1, h2⟩ := appN_uni (R' := R') h
         clear h
         exact ⟨v, t', F', h1, fun k' => by simp only [opE, ho]; simp only [*]⟩)
      | (obtain ⟨v, t', F', h1, h2⟩ := appNN_uni (R' := R') h
         clear h
         exact ⟨v, t', F', h1, fun k' => by simp only [opE, ho]; simp only [*]⟩)
      | exact ⟨_, _, _, h, fun k' => by simp only [opE, ho]; simp only [*]⟩
      | (rw [forceAll_eq, forceF_eq] at h; exact ⟨_, _, _, h, fun k' => by simp only [opE, ho]; simp only [*, forceAll_eq, forceF_eq]⟩)
  · rename_i ty x lo hi mx ho
    split at h
    · simp at h
    split at h
    · rename_i c1
      split at h
      · rename_i c2
        split at h
        case h_2 => simp at h
        rename_i c3
        obtain ⟨v, h1, h2⟩ := opQ_uni (R' := R') h
        exact ⟨v, _, _, h1, fun k' => by simp only [opE, ho, c1, c2, c3, h2]⟩
      repeat' split at h
      all_goals first
        | (simp at h; done)
        | exact ⟨_, _, _, h, fun k' => by simp only [opE, ho]; simp only [*]⟩
        | (rw [forceAll_eq, forceF_eq] at h; exact ⟨_, _, _, h, fun k' => by simp only [opE, ho]; simp only [*, forceAll_eq, forceF_eq]⟩)
    · rename_i c1
      obtain ⟨v, h1, h2⟩ := opQ_uni (R' := R') h
      refine ⟨v, t, F, h1, fun k' => ?_⟩
      simp only [opE, ho]
      first
      | exact h2 _
      | (split
         · rename_i s hs; exact absurd hs (c1 s)
         · exact h2 _)
  · rename_i ty ho
    repeat' split at h
    all_goals first
      | (simp at h; done)
      | exact ⟨_, _, _, h, fun k' => by simp only [opE, ho]; simp only [*]⟩
  · rename_i ty x ix v ho
    repeat' split at h
    all_goals first
      | (simp at h; done)
      | exact ⟨_, _, _, h, fun k' => by simp only [opE, ho]; simp only [*]⟩
  · rename_i ty n ps ho
    split at h
    case h_2 => simp at h
    rename_i c1
    split at h
    case h_2 => simp at h
    rename_i c2
    split at h
    case h_2 => simp at h
    rename_i c3
    split at h
    case h_2 => simp at h
    rename_i c4
    rcases bld1_uni (R' := R') h with ⟨h, hb⟩ | ⟨v, t', F', h1, h2⟩
    rotate_left
    · exact ⟨v, t', F', h1, fun k' => by simp only [opE, ho, c1, c2, c3, c4]; exact h2 _ _⟩
    obtain ⟨rows, t1, F1, h1, h2⟩ := frzParts_uni (R' := R') _ _ _ _ _ _ h
    repeat' split at h1
    all_goals first
      | (simp at h1; done)
      | (obtain ⟨v1, F1, g1, g2⟩ := newK_uni (R' := R') h1
         clear h1
         exact ⟨_, _, _, g1, fun k' => by simp only [opE, ho]; simp only [*]⟩)
  · rename_i ho
    obtain ⟨v, F', h1, h2⟩ := bldN_uni (R' := R') h
    exact ⟨v, t, F', h1, fun k' => by simp only [opE, ho, h2]⟩
  · rename_i src dst x ho
    obtain ⟨e, rows, h1, h2⟩ := cvtB_uni (Q := R') h
    obtain ⟨v1, F1, g1, g2⟩ := newK_uni (R' := R') h1
    exact ⟨_, _, _, g1, fun k' => by simp only [opE, ho, h2]; exact g2 _⟩
  · rename_i ho
    obtain ⟨v, t', F', h1, h2⟩ := nilS_uni (R' := R') h
    exact ⟨v, t', F', h1, fun k' => by simp only [opE, ho, h2]⟩
  · rename_i ho
    obtain ⟨v, t', F', h1, h2⟩ := nilS_uni (R' := R') h
    exact ⟨v, t', F', h1, fun k' => by simp only [opE, ho, h2]⟩
  · simp at h

omit DW in
theorem want_uni {Q : Type} {q : Q} {ops : List Oper} {t : List V} {o : Oper} {yes no : Option R} (h : wantV ops t o yes no = some r) :
    (yes = some r ∧ ∀ y n : Option Q, wantV ops t o y n = y) ∨ (no = some r ∧ ∀ y n : Option Q, wantV ops t o y n = n) := by
  unfold wantV at h ⊢
  repeat' split at h
  all_goals first
    | (simp at h; done)
    | exact .inl ⟨h, fun y n => by simp only [*]⟩
    | exact .inr ⟨h, fun y n => by simp only [*]⟩

end

end Go.Proofs.YtjnhclnnobejgaaE

/- The engine, between: the machine's walk of a region that draws its order; conditions: none. -/
import Derived.Test.YthpcnbjpdcpfbaaEv
namespace Go.Proofs.YthpcnbjpdcpfbaaE
open Go.RowKit
set_option linter.unusedVariables false
set_option linter.unusedSimpArgs false

section
variable {R : Type} {E : Env} {call : Ca} {r : R}

/-! ### What an operation hands on -/

theorem opD_one {o : Oper} {t : List V} {F : Fo} {k : V → Option R} (h : opD E call o t F k = some r) : ∃ v, k v = some r ∧ opD E call o t F some = some v := by
  unfold opD at h ⊢
  split at h
  · rename_i c ho
    split at h
    · rename_i f hc
      unfold opS at h ⊢
      rw [hc] at h
      simp only at h
      split at h
      case h_2 => simp at h
      rename_i g caps hf
      split at h
      · rename_i hs
        split at h
        case h_2 => simp at h
        rename_i v hcall
        split at h
        case h_2 => simp at h
        rename_i hsc
        exact ⟨v, h, by simp only [hc, hf, hs, hcall, hsc]⟩
      · rename_i hs
        split at h
        case h_2 => simp at h
        rename_i h1 h2
        split at h
        case h_2 => simp at h
        rename_i v hcall
        split at h
        case h_2 => simp at h
        rename_i hrf
        exact ⟨v, h, by simp only [hc, hf, hs, h1, h2, hcall, hrf]⟩
    · rename_i hne
      obtain ⟨v, h1, h2⟩ := opQ_uni (R' := V) h
      exact ⟨v, h1, h2 some⟩
  · rename_i hne
    obtain ⟨v, h1, h2⟩ := opQ_uni (R' := V) h
    exact ⟨v, h1, h2 some⟩

theorem datParts_one {n : Nat} {t : List V} {Q : Type} : ∀ (ps : List (Nat × Operand)) (i : Nat) (k : List (List D) → Option R), datParts n t i ps k = some r → ∃ rows, k rows = some r ∧ ∀ k' : List (List D) → Option Q, datParts n t i ps k' = k' rows
  | [], i, k, h => ⟨[], h, fun k' => rfl⟩
  | (j, x) :: ps, i, k, h => by
    simp only [datParts] at h ⊢
    split at h
    case h_2 => simp at h
    rename_i h1 h2
    split at h
    case h_2 => simp at h
    rename_i ds hd
    split at h
    case h_2 => simp at h
    rename_i hl
    obtain ⟨rows, h3, h4⟩ := datParts_one (Q := Q) ps (i + 1) _ h
    exact ⟨ds :: rows, h3, fun k' => by simp only [h1, h2, hd, hl, h4]⟩

theorem callOn_one {Q : Type} {g : FuncId} {vs : List V} {F : Fo} {L : List Nat} {k : V → Fo → Option R} (h : opC.callOn call g vs F L k = some r) :
    ∃ v F', k v F' = some r ∧ ∀ k' : V → Fo → Option Q, opC.callOn call g vs F L k' = k' v F' := by
  unfold opC.callOn at h
  split at h
  case h_2 => simp at h
  rename_i hn
  split at h
  case h_2 => simp at h
  rename_i v F1 hcall
  split at h
  case h_2 => simp at h
  rename_i hall
  exact ⟨_, _, h, fun k' => by simp only [opC.callOn, hn, hcall, hall]⟩

theorem opX_one {Q : Type} {o : Oper} {t : List V} {F : Fo} {k : V → Fo → Option R} (h : opX E call o t F k = some r) : ∃ v F', k v F' = some r ∧ ∀ k' : V → Fo → Option Q, opX E call o t F k' = k' v F' := by
  unfold opX at h
  split at h
  · rename_i ty ho
    split at h
    case h_2 => simp at h
    rename_i i hi
    exact ⟨_, _, h, fun k' => by simp only [opX, ho, hi]⟩
  · rename_i ty x ho
    split at h
    case h_2 => simp at h
    rename_i hl
    exact ⟨_, _, h, fun k' => by simp only [opX, ho, hl]⟩
  · rename_i ty l c ho
    repeat' split at h
    all_goals first
      | (simp at h; done)
      | exact ⟨_, _, h, fun k' => by simp only [opX, ho]; simp only [*]⟩
  · rename_i ty n ps ho
    split at h
    case h_2 => simp at h
    rename_i i c1
    split at h
    case h_2 => simp at h
    rename_i e c2
    split at h
    case h_2 => simp at h
    rename_i j c3
    split at h
    case h_2 => simp at h
    rename_i c4
    obtain ⟨rows, h1, h2⟩ := datParts_one (Q := Q) _ _ _ h
    repeat' split at h1
    all_goals first
      | (simp at h1; done)
      | exact ⟨_, _, h1, fun k' => by simp only [opX, ho]; simp only [*]⟩
  · rename_i c ho
    split at h
    case h_2 => simp at h
    rename_i f hc
    split at h
    case h_2 => simp at h
    rename_i g caps hf
    split at h
    case h_2 => simp at h
    rename_i s1 s2
    obtain ⟨v, F', h1, h2⟩ := callOn_one (Q := Q) h
    exact ⟨v, F', h1, fun k' => by simp only [opX, ho, hc, hf, s1, s2, h2]⟩
  · simp at h

/-! ### It is what the interpreter of the order written does -/

mutual
theorem sub_id {sl : Nat → V} {pt : Nat → Nat → Nat → V} {bp : Nat → Nat → V} : ∀ (v : V), refsV v = [] → subV sl pt bp v = v
  | .d x, _ => by rw [subV]
  | .agg cs, h => by rw [subV, subL_id cs (by simpa [refsV] using h)]
  | .tup cs, h => by rw [subV, subL_id cs (by simpa [refsV] using h)]
  | .bp r j, h => by simp [refsV] at h
  | .ptr r i j, h => by simp [refsV] at h
  | .sl r, h => by simp [refsV] at h
  | .rp rows i j, _ => by rw [subV]
  | .clo f cs, h => by rw [subV, subL_id cs (by simpa [refsV] using h)]
  | .dead, _ => by rw [subV]
theorem subL_id {sl : Nat → V} {pt : Nat → Nat → Nat → V} {bp : Nat → Nat → V} : ∀ (vs : List V), refsL vs = [] → subL sl pt bp vs = vs
  | [], _ => by rw [subL]
  | c :: cs, h => by
    rw [refsL, List.append_eq_nil_iff] at h
    rw [subL, sub_id c h.1, subL_id cs h.2]
end

theorem opD_all {Q : Type} {o : Oper} {t : List V} {F : Fo} {v : V} (h2 : kindD E.scal E.pur o ≠ 2) (h3 : kindD E.scal E.pur o ≠ 3) (h : opD E call o t F some = some v) (k : V → List V → Fo → Option Q) :
    opAll E call o t F k = k v t F := by
  have quiet : kindOf o.op = 0 → opQ E t F o.op some = some v → opAll E call o t F k = k v t F := by
    intro h0 hq
    obtain ⟨v', h1, h2⟩ := opQ_uni (R' := Q) hq
    injection h1 with h1
    subst h1
    unfold opAll
    rw [h0]
    exact h2 _
  unfold opD at h
  split at h
  · rename_i c ho
    split at h
    · rename_i f hc
      have hk : kindOf o.op = 2 := by simp [kindOf, ho, hc]
      unfold opAll
      rw [hk]
      simp only [ho]
      unfold opS at h
      rw [hc] at h
      simp only at h
      unfold opC
      rw [hc]
      split at h
      case h_2 => simp at h
      rename_i g caps hf
      simp only [hf]
      split at h
      · rename_i hs
        split at h
        case h_2 => simp at h
        rename_i v' hcall
        split at h
        case h_2 => simp at h
        rename_i hsc
        injection h with h
        subst h
        simp only [hs, hcall, hsc]
      · rename_i hs
        split at h
        case h_2 => simp at h
        rename_i g1 g2
        split at h
        case h_2 => simp at h
        rename_i v' hcall
        split at h
        case h_2 => simp at h
        rename_i hrf
        injection h with h
        subst h
        have hcl : close F 200 [] [] = [] := rfl
        have hp : packF [] F = [] := rfl
        try simp only [hs]
        cases hm : memN g E.handN
        all_goals simp only [g2, uniqN, frzAll, g1, hcl, opC.callOn, nodupN, subL_id _ g1, hp, hcall, List.length_nil, allSome, sub_id _ hrf, back, List.take_zero, List.drop_zero, mapO, List.append_nil]
    · rename_i hne
      refine quiet ?_ (by rw [ho]; exact h)
      have : kindD E.scal E.pur o ≠ 3 := h3
      unfold kindD at this
      rw [ho] at this ⊢
      simp only [kindOf] at this ⊢
      cases hc : c.callee with
      | value f => exact absurd hc (hne f)
      | builtin b => rw [hc] at this; cases b <;> simp at this ⊢
      | invoke r m => rfl
  · rename_i hne
    refine quiet ?_ h
    unfold kindD at h2 h3
    generalize o.op = op at *
    cases op with
    | call c => exact absurd rfl (hne c)
    | load => rfl
    | indexAddr => rfl
    | store => simp at h3
    | _ =>
      simp only at h2 h3
      split at h2
      · assumption
      · simp at h2

theorem datParts_frz {Q : Type} {n : Nat} {t : List V} {F : Fo} : ∀ (ps : List (Nat × Operand)) (i : Nat) (k : List (List D) → Option R), datParts n t i ps k = some r →
    ∃ rows, k rows = some r ∧ ∀ k' : List (List D) → List V → Fo → Option Q, opE.frzParts n i ps t F k' = k' rows t F
  | [], i, k, h => ⟨[], h, fun k' => rfl⟩
  | (j, x) :: ps, i, k, h => by
    simp only [datParts] at h
    split at h
    case h_2 => simp at h
    rename_i h1 h2
    split at h
    case h_2 => simp at h
    rename_i ds hd
    split at h
    case h_2 => simp at h
    rename_i hl
    obtain ⟨rows, h3, h4⟩ := datParts_frz (Q := Q) (F := F) ps (i + 1) _ h
    refine ⟨ds :: rows, h3, fun k' => ?_⟩
    simp only [opE.frzParts, h1, h2]
    rw [frzCells_data (cellsV (val t x)) ds hd hl]
    exact h4 _
where
  frzCells_data {Q : Type} {t : List V} {F : Fo} : ∀ (cs : List V) (ds : List D), toDs cs = some ds → leafDs ds = true → ∀ {k : List D → List V → Fo → Option Q}, frzCells cs t F k = k ds t F
    | [], ds, h, hl, k => by simp only [toDs, Option.some.injEq] at h; subst h; rfl
    | c :: cs, ds, h, hl, k => by
      cases c with
      | d x =>
        simp only [toDs] at h
        split at h
        case h_2 => simp at h
        rename_i ds' hds
        injection h with h
        subst h
        simp only [leafDs] at hl
        split at hl
        case h_2 => simp at hl
        rename_i hx
        simp only [frzCells, hx]
        exact frzCells_data cs ds' hds hl
      | _ => simp [toDs] at h

theorem opX_all {Q : Type} {o : Oper} {t : List V} {F F' : Fo} {v : V} (h : opX E call o t F (fun v F => some (v, F)) = some (v, F')) (k : V → List V → Fo → Option Q) : opAll E call o t F k = k v t F' := by
  unfold opX at h
  split at h
  · rename_i ty ho
    have hk : kindOf o.op = 1 := by simp [kindOf, ho]
    unfold opAll; rw [hk]
    simp only [opE, ho]
    split at h
    case h_2 => simp at h
    rename_i i hi
    simp only [Option.some.injEq, Prod.mk.injEq] at h
    obtain ⟨rfl, rfl⟩ := h
    simp only [hi]
  · rename_i ty x ho
    have hk : kindOf o.op = 1 := by simp [kindOf, ho]
    unfold opAll; rw [hk]
    simp only [opE, ho]
    split at h
    case h_2 => simp at h
    rename_i hl
    simp only [Option.some.injEq, Prod.mk.injEq] at h
    obtain ⟨rfl, rfl⟩ := h
    simp only [hl]
  · rename_i ty l c ho
    have hk : kindOf o.op = 1 := by simp [kindOf, ho]
    unfold opAll; rw [hk]
    simp only [opE, ho]
    repeat' split at h
    all_goals first
      | (simp at h; done)
      | (simp only [Option.some.injEq, Prod.mk.injEq] at h
         obtain ⟨rfl, rfl⟩ := h
         simp only [*])
  · rename_i ty n ps ho
    have hk : kindOf o.op = 1 := by simp [kindOf, ho]
    unfold opAll; rw [hk]
    simp only [opE, ho]
    split at h
    case h_2 => simp at h
    rename_i i c1
    split at h
    case h_2 => simp at h
    rename_i e c2
    split at h
    case h_2 => simp at h
    rename_i j c3
    split at h
    case h_2 => simp at h
    rename_i c4
    obtain ⟨rows, h1, h2⟩ := datParts_frz (Q := Q) (F := F) _ _ _ h
    split at h1
    case h_2 => simp at h1
    rename_i d1 d2
    simp only [Option.some.injEq, Prod.mk.injEq] at h1
    obtain ⟨rfl, rfl⟩ := h1
    simp only [c1, c2, c3, c4, h2, d1, d2]
  · rename_i c ho
    split at h
    case h_2 => simp at h
    rename_i f hc
    have hk : kindOf o.op = 2 := by simp [kindOf, ho, hc]
    unfold opAll; rw [hk]
    simp only [ho]
    unfold opC
    rw [hc]
    split at h
    case h_2 => simp at h
    rename_i g caps hf
    split at h
    case h_2 => simp at h
    rename_i s1 s2
    obtain ⟨v', F1, h1, h2⟩ := callOn_one (Q := Q) h
    simp only [Option.some.injEq, Prod.mk.injEq] at h1
    obtain ⟨rfl, rfl⟩ := h1
    simp only [hf, s1]
    cases hm : memN g E.handN
    all_goals (simp only [s2, uniqN, frzAll]; exact h2 _)
  · simp at h

end
end Go.Proofs.YthpcnbjpdcpfbaaE

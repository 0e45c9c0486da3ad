/- The engine, between: the machine's walk of a region that draws its order; conditions: none. -/
import Derived.Test.YtjnhclnnobejgaaEv
namespace Go.Proofs.YtjnhclnnobejgaaE
open Go.RowKit
set_option linter.unusedVariables false
set_option linter.unusedSimpArgs false
variable [DW : Drw]

section
variable {R : Type} {E : Env} {call : Ca} {r : R}

/-! ### What an operation hands on -/

omit DW in
theorem lstD_inv {t : List V} {ty : TypeId} {n : Nat} {ps : Array (Nat × Operand)} {k : V → Option R} (h : lstD E t ty n ps k = some r) : ∃ i e j T x, look E.tys ty = some i ∧ i.desc = .slice e ∧ look E.tys e = some j ∧ nstOf E e j.size = some T ∧
    (ps = #[(0, x)] ∧ n = 1 ∧ (cellsV (val t x)).length = j.size ∧ leafs (cellsV (val t x)) = true ∧ j.size ≤ 16777216 ∧ 0 < j.size) ∧ k (.lst T (cellsV (val t x))) = some r ∧ ∀ {Q : Type} (k' : V → Option Q), lstD E t ty n ps k' = k' (.lst T (cellsV (val t x))) := by
  unfold lstD at h
  split at h
  case h_2 => simp at h
  rename_i i hi
  split at h
  case h_2 => simp at h
  rename_i e hd
  split at h
  case h_2 => simp at h
  rename_i j hj
  split at h
  case h_2 => simp at h
  rename_i T x hT hps
  split at h
  case h_2 => simp at h
  rename_i c1 c2 c3 c4
  refine ⟨i, e, j, T, x, hi, hd, hj, hT, ⟨by apply Array.ext'; simpa using hps, rfl, Nat.eq_of_beq_eq_true c1, c2, Nat.le_of_ble_eq_true c3, by have := c4; simp [Nat.blt_eq] at this; exact this⟩, h, fun k' => ?_⟩
  unfold lstD
  simp only [hi, hd, hj, hT, hps, c1, c2, c3, c4]
omit DW in
theorem opD_one {o : Oper} {t : List V} {F : Fo} {k : V → Option R} (h : opD E call o t F k = some r) : ∃ v, k v = some r ∧ opD E call o t F some = some v := by
  unfold opD at h ⊢
  split at h
  · rename_i c ho
    split at h
    · rename_i f hc
      unfold opS at h ⊢
      rw [hc] at h
      simp only at h
      split at h
      case h_2 => simp at h
      rename_i g caps hf
      split at h
      · rename_i hs
        split at h
        case h_2 => simp at h
        rename_i v0 F1 hcall
        split at h
        case h_2 => simp at h
        rename_i v hsc
        exact ⟨v, h, by simp only [hc, hf, hs, hcall, hsc]⟩
      · rename_i hs
        split at h
        case h_2 => simp at h
        rename_i h1 h2
        split at h
        case h_2 => simp at h
        rename_i v F1 hcall
        exact ⟨_, h, by simp only [hc, hf, hs, h1, h2, hcall]⟩
    · rename_i hne
      obtain ⟨v, h1, h2⟩ := opQ_uni (R' := V) h
      exact ⟨v, h1, h2 some⟩
  · rename_i ty n ps ho
    obtain ⟨_, _, _, T, x, _, _, _, _, _, h1, h2⟩ := lstD_inv h
    exact ⟨_, h1, h2 some⟩
  · rename_i hne
    obtain ⟨v, h1, h2⟩ := opQ_uni (R' := V) h
    exact ⟨v, h1, h2 some⟩

omit DW in
theorem datParts_one {n : Nat} {t : List V} {Q : Type} : ∀ (ps : List (Nat × Operand)) (i : Nat) (k : List (List D) → Option R), datParts n t i ps k = some r → ∃ rows, k rows = some r ∧ ∀ k' : List (List D) → Option Q, datParts n t i ps k' = k' rows
  | [], i, k, h => ⟨[], h, fun k' => rfl⟩
  | (j, x) :: ps, i, k, h => by
    simp only [datParts] at h ⊢
    split at h
    case h_2 => simp at h
    rename_i h1 h2
    split at h
    case h_2 => simp at h
    rename_i ds hd
    split at h
    case h_2 => simp at h
    rename_i hl
    obtain ⟨rows, h3, h4⟩ := datParts_one (Q := Q) ps (i + 1) _ h
    exact ⟨ds :: rows, h3, fun k' => by simp only [h1, h2, hd, hl, h4]⟩

omit DW in
theorem callOn_one {Q : Type} {g : FuncId} {vs : List V} {F : Fo} {L : List Nat} {k : V → Fo → Option R} (h : opC.callOn call g vs F L k = some r) :
    ∃ v F', k v F' = some r ∧ ∀ k' : V → Fo → Option Q, opC.callOn call g vs F L k' = k' v F' := by
  rw [opC.callOn, forceNs_eq] at h
  unfold opC.callIn at h
  split at h
  case h_2 => simp at h
  rename_i hn
  split at h
  case h_2 => simp at h
  rename_i v F1 hcall
  split at h
  case h_2 => simp at h
  rename_i hall
  rw [forceC_eq, forceF_eq] at h
  exact ⟨_, _, h, fun k' => by simp only [opC.callOn, forceNs_eq, opC.callIn, hn, hcall, hall, forceC_eq, forceF_eq]⟩

omit DW in
theorem opX_one {Q : Type} {o : Oper} {t : List V} {F : Fo} {k : V → Fo → Option R} (h : opX E call o t F k = some r) : ∃ v F', k v F' = some r ∧ ∀ k' : V → Fo → Option Q, opX E call o t F k' = k' v F' := by
  unfold opX at h
  split at h
  · rename_i ty ho
    split at h
    case h_2 => simp at h
    rename_i i hi
    exact ⟨_, _, h, fun k' => by simp only [opX, ho, hi]⟩
  · rename_i ty x ho
    split at h
    case h_2 => simp at h
    rename_i hl
    exact ⟨_, _, h, fun k' => by simp only [opX, ho, hl]⟩
  · rename_i ty ps ho
    split at h
    case h_2 => simp at h
    rename_i hm
    obtain ⟨v, F', h1, h2⟩ := bldN_uni (R' := Q) h
    exact ⟨v, F', h1, fun k' => by simp only [opX, ho, hm, h2]⟩
  · rename_i ty l c ho
    repeat' split at h
    all_goals first
      | (simp at h; done)
      | (obtain ⟨v1, F1, g1, g2⟩ := newK_uni (R' := Q) h
         clear h
         exact ⟨_, _, g1, fun k' => by simp only [opX, ho]; simp only [*]⟩)
  · rename_i ty n ps ho
    split at h
    case h_2 => simp at h
    rename_i i c1
    split at h
    case h_2 => simp at h
    rename_i e c2
    split at h
    case h_2 => simp at h
    rename_i j c3
    split at h
    case h_2 => simp at h
    rename_i c4
    obtain ⟨rows, h1, h2⟩ := datParts_one (Q := Q) _ _ _ h
    repeat' split at h1
    all_goals first
      | (simp at h1; done)
      | (obtain ⟨v1, F1, g1, g2⟩ := newK_uni (R' := Q) h1
         clear h1
         exact ⟨_, _, g1, fun k' => by simp only [opX, ho]; simp only [*]⟩)
  · rename_i c ho
    split at h
    case h_2 => simp at h
    rename_i f hc
    split at h
    case h_2 => simp at h
    rename_i g caps hf
    split at h
    case h_2 => simp at h
    rename_i s1 s2
    split at h
    · simp at h
    rename_i s3
    obtain ⟨v, F', h1, h2⟩ := callOn_one (Q := Q) h
    exact ⟨v, F', h1, fun k' => by simp only [opX, ho, hc, hf, s1, s2, s3, h2]⟩
  · simp at h

omit DW in
theorem opN_one {Q : Type} {o : Oper} {q : Nat} {t : List V} {F : Fo} {k : V → Fo → Option R} (h : opN E t o q F k = some r) : ∃ v R, root F q = none ∧ q < F.length ∧ k v (F.set q (some R)) = some r ∧ ∀ (G : Fo) (k' : V → Fo → Option Q), root G q = none → q < G.length → (∀ r ∈ newL t o, root G r = root F r) → opN E t o q G k' = k' v (G.set q (some R)) := by
  unfold opN at h
  split at h
  case h_2 => simp at h
  rename_i hq hlt
  have hlt2 : q < F.length := by simpa [Nat.blt_eq] using hlt
  have low : ∀ G : Fo, q < G.length → Nat.blt q G.length = true := fun G hg => by rw [Nat.blt_eq]; exact hg
  split at h
  · rename_i ty ho
    split at h
    case h_2 => simp at h
    rename_i i hi
    exact ⟨_, _, hq, hlt2, h, fun G k' g1 g2 g3 => by simp only [opN, g1, low G g2, ho, hi]⟩
  · rename_i ty x ho
    split at h
    case h_2 => simp at h
    rename_i hl
    exact ⟨_, _, hq, hlt2, h, fun G k' g1 g2 g3 => by simp only [opN, g1, low G g2, ho, hl]⟩
  · rename_i ty l c ho
    repeat' split at h
    all_goals first
      | (simp at h; done)
      | (obtain ⟨v1, R1, q1, q2⟩ := newQ_uni (R' := Q) h
         clear h
         exact ⟨_, _, hq, hlt2, q1, fun G k' g1 g2 g3 => by simp only [opN, g1, low G g2, ho]; simp only [*]⟩)
  · rename_i ty n ps ho
    split at h
    case h_2 => simp at h
    rename_i i c1
    split at h
    case h_2 => simp at h
    rename_i e c2
    split at h
    case h_2 => simp at h
    rename_i j c3
    split at h
    case h_2 => simp at h
    rename_i c4
    obtain ⟨rows, h1, h2⟩ := datParts_one (Q := Q) _ _ _ h
    split at h1
    case h_2 => simp at h1
    rename_i d1 d2
    obtain ⟨v1, R1, q1, q2⟩ := newQ_uni (R' := Q) h1
    exact ⟨_, _, hq, hlt2, q1, fun G k' g1 g2 g3 => by simp only [opN, g1, low G g2, ho, c1, c2, c3, c4, h2, d1, d2]; exact q2 G k'⟩
  · rename_i src dst x ho
    obtain ⟨e, rows, h1, h2⟩ := cvtB_uni (Q := Q) h
    obtain ⟨v1, R1, q1, q2⟩ := newQ_uni (R' := Q) h1
    exact ⟨_, _, hq, hlt2, q1, fun G k' g1 g2 g3 => by simp only [opN, g1, low G g2, ho, h2]; exact q2 G k'⟩
  · rename_i c ho
    split at h
    case h_2 => simp at h
    rename_i x y tx ty a1 a2 a3
    have hrow : ∀ G : Fo, (∀ r ∈ newL t o, root G r = root F r) → rowsV G (val t y) = rowsV F (val t y) := fun G hG => rowsV_frame fun r hr => hG r (by simp only [newL, ho, a2]; exact hr)
    repeat' split at h
    all_goals first
      | (simp at h; done)
      | exact ⟨_, _, hq, hlt2, h, fun G k' g1 g2 g3 => by simp only [opN, g1, low G g2, ho, a1, a2, a3, hrow G g3]; simp only [*]⟩
  · simp at h
omit DW in
theorem frzCells_data {R : Type} : ∀ {cs : List V} {ds : List D} (_ : toDs cs = some ds) (_ : leafDs ds = true) {t : List V} {F : Fo} {k : List D → List V → Fo → Option R}, frzCells cs t F k = k ds t F
  | [], ds, h, _, t, F, k => by simp only [toDs, Option.some.injEq] at h; subst h; rfl
  | c :: cs, ds, h, hl, t, F, k => by
    cases c <;> simp only [toDs] at h <;> try (simp at h; done)
    split at h
    case h_2 => simp at h
    rename_i ds' h'
    injection h with h
    subst h
    simp only [leafDs] at hl
    split at hl
    case h_2 => simp at hl
    rename_i hx
    simp only [frzCells, hx]
    exact frzCells_data h' hl
omit DW in
theorem opS4_one {Q : Type} {o : Oper} {t : List V} {F : Fo} {k : Fo → Option R} (h : opS4 E t F o k = some r) : ∃ s X, storeAt t o = some s ∧ s < F.length ∧ k (F.set s (some X)) = some r ∧
    (∀ (G : Fo) (k' : Fo → Option Q), root G s = root F s → opS4 E t G o k' = k' (G.set s (some X))) ∧ ∀ (Q' : Type) (G : Fo) (k' : V → List V → Fo → Option Q'), root G s = root F s → opAll E call o t G k' = k' .dead t (G.set s (some X)) := by
  unfold opS4 at h
  split at h
  case h_2 => simp at h
  rename_i ty x v ho
  split at h
  case h_2 => simp at h
  rename_i i hi
  split at h
  case h_2 => simp at h
  rename_i c1
  split at h
  case h_3 => simp at h
  · rename_i s j hx
    split at h
    case h_2 => simp at h
    rename_i cs hr
    split at h
    case h_2 => simp at h
    rename_i c2 c3
    have hs : s < F.length := by
      have := root_get hr
      exact (List.getElem?_eq_some_iff.mp this).1
    refine ⟨s, _, by simp only [storeAt, ho, hx], hs, h, fun G k' hg => by simp only [opS4, ho, hi, c1, hx, hg, hr, c2, c3], fun Q' G k' hg => ?_⟩
    have hk : kindE E o.op = 1 := by simp [kindE, kindOf, ho]
    unfold opAll; rw [hk]
    simp only [opE, ho, hi, c1, hx, hg, hr, c2, c3]
  · rename_i s n j hx
    split at h
    case h_2 => simp at h
    rename_i ds hds
    split at h
    case h_2 => simp at h
    rename_i e es rows hlf hr
    split at h
    case h_2 => simp at h
    rename_i row hrow
    split at h
    case h_2 => simp at h
    rename_i c2
    have hs : s < F.length := by
      have := root_get hr
      exact (List.getElem?_eq_some_iff.mp this).1
    refine ⟨s, _, by simp only [storeAt, ho, hx, hds, hlf], hs, h, fun G k' hg => by simp only [opS4, ho, hi, c1, hx, hds, hlf, hg, hr, hrow, c2], fun Q' G k' hg => ?_⟩
    have hk : kindE E o.op = 1 := by simp [kindE, kindOf, ho]
    unfold opAll; rw [hk]
    simp only [opE, ho, hi, c1, hx, frzCells_data hds hlf, hg, hr, hrow, c2]

/-! ### It leaves alone what it may not turn -/
omit DW in
theorem root_app {F G : Fo} {r : Nat} (h : r < F.length) : root (F ++ G) r = root F r := by
  induction F generalizing r with
  | nil => simp at h
  | cons R F ih =>
    cases r with
    | zero => rfl
    | succ r => simp only [List.cons_append, root]; exact ih (by simpa using h)
omit DW in
theorem root_of_get {F F' : Fo} {r : Nat} (h : F[r]? = F'[r]?) : root F r = root F' r := by
  have e : ∀ (F : Fo) (r : Nat), root F r = (F[r]?).join := by
    intro F
    induction F with
    | nil => intro r; simp [root]
    | cons R F ih =>
      intro r
      cases r with
      | zero => simp [root]
      | succ r => simp only [root, List.getElem?_cons_succ]; exact ih r
  rw [e, e, h]
omit DW in
theorem opX_len {E : Env} {call : Ca} {o : Oper} {t : List V} {F F' : Fo} {v : V} (h : opX E call o t F (fun v F => some (v, F)) = some (v, F')) : F.length ≤ F'.length := by
  unfold opX at h
  split at h
  · repeat' split at h
    all_goals first
      | (simp at h; done)
      | (simp only [Option.some.injEq, Prod.mk.injEq] at h; obtain ⟨rfl, rfl⟩ := h; simp)
      | (obtain ⟨R, rfl, _⟩ := newK_some h; simp)
  · repeat' split at h
    all_goals first
      | (simp at h; done)
      | (simp only [Option.some.injEq, Prod.mk.injEq] at h; obtain ⟨rfl, rfl⟩ := h; simp)
      | (obtain ⟨R, rfl, _⟩ := newK_some h; simp)
  · split at h
    case h_2 => simp at h
    unfold bldN bldOn at h
    split at h
    case h_2 => simp at h
    split at h
    case h_2 => simp at h
    split at h
    case h_2 => simp at h
    obtain ⟨cs, h1, _⟩ := fill_uni (R' := V × Fo) _ _ _ h
    simp only [Option.some.injEq, Prod.mk.injEq] at h1
    obtain ⟨rfl, rfl⟩ := h1
    simp
  · repeat' split at h
    all_goals first
      | (simp at h; done)
      | (simp only [Option.some.injEq, Prod.mk.injEq] at h; obtain ⟨rfl, rfl⟩ := h; simp)
      | (obtain ⟨R, rfl, _⟩ := newK_some h; simp)
  · split at h
    case h_2 => simp at h
    split at h
    case h_2 => simp at h
    split at h
    case h_2 => simp at h
    split at h
    case h_2 => simp at h
    obtain ⟨rows, h1, _⟩ := datParts_one (Q := V × Fo) _ _ _ h
    split at h1
    case h_2 => simp at h1
    obtain ⟨R, rfl, _⟩ := newK_some h1
    simp
  · rename_i c ho
    split at h
    case h_2 => simp at h
    rename_i f hc
    split at h
    case h_2 => simp at h
    rename_i g caps hf
    split at h
    case h_2 => simp at h
    rename_i s1 s2
    split at h
    · simp at h
    rename_i s3
    rw [opC.callOn, forceNs_eq] at h
    unfold opC.callIn at h
    split at h
    case h_2 => simp at h
    split at h
    case h_2 => simp at h
    split at h
    case h_2 => simp at h
    rw [forceC_eq, forceF_eq] at h
    simp only [Option.some.injEq, Prod.mk.injEq] at h
    obtain ⟨_, rfl⟩ := h
    rw [List.length_append, back_len]
    omega
  · simp at h
omit DW in
theorem opX_frame {E : Env} {call : Ca} {o : Oper} {t : List V} {F F' : Fo} {v : V} (h : opX E call o t F (fun v F => some (v, F)) = some (v, F')) {r : Nat} (hr : r < F.length) (hn : r ∉ chgs E t F o) : root F' r = root F r := by
  unfold opX at h
  split at h
  · rename_i ty ho
    repeat' split at h
    all_goals first
      | (simp at h; done)
      | (simp only [Option.some.injEq, Prod.mk.injEq] at h; obtain ⟨rfl, rfl⟩ := h; exact root_app hr)
      | (obtain ⟨R, rfl, _⟩ := newK_some h; exact root_app hr)
  · rename_i ty x ho
    repeat' split at h
    all_goals first
      | (simp at h; done)
      | (simp only [Option.some.injEq, Prod.mk.injEq] at h; obtain ⟨rfl, rfl⟩ := h; exact root_app hr)
      | (obtain ⟨R, rfl, _⟩ := newK_some h; exact root_app hr)
  · rename_i ty ps ho
    split at h
    case h_2 => simp at h
    unfold bldN bldOn at h
    split at h
    case h_2 => simp at h
    split at h
    case h_2 => simp at h
    split at h
    case h_2 => simp at h
    obtain ⟨cs, h1, _⟩ := fill_uni (R' := V × Fo) _ _ _ h
    simp only [Option.some.injEq, Prod.mk.injEq] at h1
    obtain ⟨rfl, rfl⟩ := h1
    exact root_app hr
  · rename_i ty l c ho
    repeat' split at h
    all_goals first
      | (simp at h; done)
      | (simp only [Option.some.injEq, Prod.mk.injEq] at h; obtain ⟨rfl, rfl⟩ := h; exact root_app hr)
      | (obtain ⟨R, rfl, _⟩ := newK_some h; exact root_app hr)
  · rename_i ty n ps ho
    split at h
    case h_2 => simp at h
    split at h
    case h_2 => simp at h
    split at h
    case h_2 => simp at h
    split at h
    case h_2 => simp at h
    obtain ⟨rows, h1, _⟩ := datParts_one (Q := V × Fo) _ _ _ h
    split at h1
    case h_2 => simp at h1
    obtain ⟨R, rfl, _⟩ := newK_some h1
    exact root_app hr
  · rename_i c ho
    split at h
    case h_2 => simp at h
    rename_i f hc
    split at h
    case h_2 => simp at h
    rename_i g caps hf
    split at h
    case h_2 => simp at h
    rename_i s1 s2
    split at h
    · simp at h
    rename_i s3
    have hL : chgs E t F o = close F 200 (refsL (argsV E g t c.args.toList ++ caps)) [] := by simp only [chgs, ho, hc, hf]
    rw [hL] at hn
    generalize close F 200 (refsL (argsV E g t c.args.toList ++ caps)) [] = L at h hn
    rw [opC.callOn, forceNs_eq] at h
    unfold opC.callIn at h
    split at h
    case h_2 => simp at h
    split at h
    case h_2 => simp at h
    split at h
    case h_2 => simp at h
    rw [forceC_eq, forceF_eq] at h
    simp only [Option.some.injEq, Prod.mk.injEq] at h
    obtain ⟨_, rfl⟩ := h
    rw [root_app (by rw [back_len]; exact hr)]
    refine root_of_get (back_out L _ F fun i hi => hn ?_)
    exact List.mem_of_getElem? hi
  · simp at h

/-! ### It depends on what it may turn alone -/
omit DW in
theorem root_app_r {F X : Fo} {r : Nat} (h : F.length ≤ r) : root (F ++ X) r = root X (r - F.length) := by
  induction F generalizing r with
  | nil => simp
  | cons R F ih =>
    cases r with
    | zero => simp at h
    | succ r => simp only [List.cons_append, root, List.length_cons, Nat.succ_sub_succ]; exact ih (by simpa using h)
omit DW in
theorem root_set {F : Fo} {q r : Nat} {x : Option Root} : root (F.set q x) r = if r = q ∧ q < F.length then x else root F r := by
  induction F generalizing q r with
  | nil => simp [root]
  | cons R F ih =>
    cases q with
    | zero => cases r <;> simp [root]
    | succ q =>
      cases r with
      | zero => simp [root]
      | succ r => simp only [List.set_cons_succ, root, ih, List.length_cons, Nat.add_lt_add_iff_right, Nat.succ.injEq, Nat.add_right_cancel_iff]
omit DW in
theorem root_out {F : Fo} {r : Nat} (h : F.length ≤ r) : root F r = none := by
  induction F generalizing r with
  | nil => simp [root]
  | cons R F ih =>
    cases r with
    | zero => simp at h
    | succ r => simp only [root]; exact ih (by simpa using h)
omit DW in
theorem close_keep {F : Fo} {x : Nat} : ∀ (n : Nat) (todo acc : List Nat), x ∈ acc → x ∈ close F n todo acc
  | 0, _, acc, h => by simpa [close] using h
  | n + 1, [], acc, h => by simpa [close] using h
  | n + 1, r :: todo, acc, h => by
    simp only [close]
    split
    · exact close_keep n _ _ h
    · split
      · exact close_keep n _ _ (List.mem_append_left _ h)
      · exact close_keep n _ _ (List.mem_append_left _ h)
omit DW in
theorem close_congr {F G : Fo} : ∀ (n : Nat) (todo acc : List Nat), (∀ r ∈ close F n todo acc, root G r = root F r) → close G n todo acc = close F n todo acc
  | 0, _, acc, h => by simp [close]
  | n + 1, [], acc, h => by simp [close]
  | n + 1, r :: todo, acc, h => by
    simp only [close] at h ⊢
    cases hm : memN r acc
    · rw [hm] at h
      simp only at h ⊢
      have hr : root G r = root F r := h r (by
        split
        · exact close_keep n _ _ (by simp)
        · exact close_keep n _ _ (by simp))
      rw [hr]
      split
      · rename_i cs hc
        rw [hc] at h
        exact close_congr n _ _ h
      · rename_i hc
        refine close_congr n _ _ fun s hs => h s ?_
        split
        · rename_i cs hc2; exact absurd hc2 (hc cs)
        · exact hs
    · rw [hm] at h
      exact close_congr n _ _ h
omit DW in
theorem packF_congr {L : List Nat} {F G : Fo} (h : ∀ r ∈ L, root G r = root F r) : packF L G = packF L F := by
  unfold packF
  rw [mapO_eq, mapO_eq]
  exact List.map_congr_left fun r hr => by rw [h r hr]
omit DW in
theorem app_local {F G X : Fo} (hl : G.length = F.length) (C : List Nat) (hC : C = []) : (G ++ X).length = (F ++ X).length ∧ (∀ r, (r ∈ C ∨ F.length ≤ r) → root (G ++ X) r = root (F ++ X) r) ∧ (∀ r, r < F.length → r ∉ C → root (G ++ X) r = root G r) := by
  subst hC
  refine ⟨by simp [hl], fun r hr => ?_, fun r hr _ => root_app (by omega)⟩
  rcases hr with hr | hr
  · simp at hr
  · rw [root_app_r (by omega), root_app_r hr, hl]
omit DW in
theorem opX_local {E : Env} {call : Ca} {o : Oper} {t : List V} {F F' : Fo} {v : V} (h : opX E call o t F (fun v F => some (v, F)) = some (v, F')) {G : Fo} (hl : G.length = F.length) (hr : ∀ r ∈ chgs E t F o, root G r = root F r) :
    chgs E t G o = chgs E t F o ∧ ∃ G', opX E call o t G (fun v F => some (v, F)) = some (v, G') ∧ G'.length = F'.length ∧ (∀ r, (r ∈ chgs E t F o ∨ F.length ≤ r) → root G' r = root F' r) ∧ (∀ r, r < F.length → r ∉ chgs E t F o → root G' r = root G r) := by
  have h0 := h
  unfold opX at h
  split at h
  · rename_i ty ho
    split at h
    case h_2 => simp at h
    rename_i i hi
    simp only [Option.some.injEq, Prod.mk.injEq] at h; obtain ⟨rfl, rfl⟩ := h
    exact ⟨by simp only [chgs, ho], _, by simp only [opX, ho, hi, hl], app_local hl _ (by simp only [chgs, ho])⟩
  · rename_i ty x ho
    split at h
    case h_2 => simp at h
    rename_i hi
    simp only [Option.some.injEq, Prod.mk.injEq] at h; obtain ⟨rfl, rfl⟩ := h
    exact ⟨by simp only [chgs, ho], _, by simp only [opX, ho, hi, hl], app_local hl _ (by simp only [chgs, ho])⟩
  · rename_i ty ps ho
    split at h
    case h_2 => simp at h
    rename_i hm
    unfold bldN bldOn at h
    split at h
    case h_2 => simp at h
    rename_i i hi
    split at h
    case h_2 => simp at h
    rename_i fs hd
    split at h
    case h_2 => simp at h
    rename_i pl hp
    obtain ⟨cs, h1, h2⟩ := fill_uni (R' := V × Fo) _ _ _ h
    simp only [Option.some.injEq, Prod.mk.injEq] at h1
    obtain ⟨rfl, rfl⟩ := h1
    exact ⟨by simp only [chgs, ho], _, by simp only [opX, ho, hm, bldN, bldOn, hi, hd, hp, hl]; exact h2 _, app_local hl _ (by simp only [chgs, ho])⟩
  · rename_i ty l c ho
    repeat' split at h
    all_goals first
      | (simp at h; done)
      | (obtain ⟨R, rfl, g⟩ := newK_some h
         clear h
         exact ⟨by simp only [chgs, ho], _, by simp only [opX, ho]; simp only [*] <;> exact g _ _ hl, app_local hl _ (by simp only [chgs, ho])⟩)
  · rename_i ty n ps ho
    split at h
    case h_2 => simp at h
    rename_i i c1
    split at h
    case h_2 => simp at h
    rename_i e c2
    split at h
    case h_2 => simp at h
    rename_i j c3
    split at h
    case h_2 => simp at h
    rename_i c4
    obtain ⟨rows, h1, h2⟩ := datParts_one (Q := V × Fo) _ _ _ h
    split at h1
    case h_2 => simp at h1
    rename_i d1 d2
    obtain ⟨R, rfl, g⟩ := newK_some h1
    exact ⟨by simp only [chgs, ho], _, by simp only [opX, ho, c1, c2, c3, c4, h2, d1, d2]; exact g _ _ hl, app_local hl _ (by simp only [chgs, ho])⟩
  · rename_i c ho
    split at h
    case h_2 => simp at h
    rename_i f hc
    split at h
    case h_2 => simp at h
    rename_i g caps hf
    split at h
    case h_2 => simp at h
    rename_i s1 s2
    split at h
    · simp at h
    rename_i s3
    have hL : ∀ F : Fo, chgs E t F o = close F 200 (refsL (argsV E g t c.args.toList ++ caps)) [] := fun F => by simp only [chgs, ho, hc, hf]
    rw [hL] at hr
    have hcl := close_congr (F := F) (G := G) 200 (refsL (argsV E g t c.args.toList ++ caps)) [] hr
    have hpk := packF_congr hr
    rw [hL, hL, hcl]
    generalize hLL : close F 200 (refsL (argsV E g t c.args.toList ++ caps)) [] = L at h hr hpk hcl ⊢
    rw [opC.callOn, forceNs_eq] at h
    unfold opC.callIn at h
    split at h
    case h_2 => simp at h
    rename_i hn
    split at h
    case h_2 => simp at h
    rename_i v1 F1 hcall
    split at h
    case h_2 => simp at h
    rename_i hall
    rw [forceC_eq, forceF_eq] at h
    simp only [Option.some.injEq, Prod.mk.injEq] at h
    obtain ⟨rfl, rfl⟩ := h
    refine ⟨rfl, back L (mapO (subR (unS L F.length) (unP L F.length) (unB L F.length)) (F1.take L.length)) G ++ mapO (subR (unS L F.length) (unP L F.length) (unB L F.length)) (F1.drop L.length), by simp only [opX, ho, hc, hf, s1, s2, s3, hcl, opC.callOn, forceNs_eq, opC.callIn, hn, hpk, hcall, hall, forceC_eq, forceF_eq, hl], by simp only [List.length_append, back_len, hl], fun r hr2 => ?_, fun r hr1 hr2 => ?_⟩
    · by_cases hlt : r < F.length
      · rcases hr2 with hr2 | hr2
        · rw [root_app (by rw [back_len]; omega), root_app (by rw [back_len]; omega)]
          obtain ⟨i, hi⟩ := List.mem_iff_getElem?.mp hr2
          have hi2 : i < L.length := (List.getElem?_eq_some_iff.mp hi).1
          obtain ⟨R1, hR1⟩ := allSome_get hall i hi2
          have hlen1 : i < F1.length := (List.getElem?_eq_some_iff.mp hR1).1
          have hget : ∃ x, (mapO (subR (unS L F.length) (unP L F.length) (unB L F.length)) (F1.take L.length))[i]? = some x := ⟨_, List.getElem?_eq_getElem (by rw [mapO_eq, List.length_map, List.length_take]; omega)⟩
          obtain ⟨x, hx⟩ := hget
          have e1 := back_in L _ F i x hn hi hx (by omega)
          have e2 := back_in L _ G i x hn hi hx (by omega)
          exact root_of_get (by rw [e1, e2])
        · omega
      · rw [root_app_r (by rw [back_len]; omega), root_app_r (by rw [back_len]; omega), back_len, back_len, hl]
    · rw [root_app (by rw [back_len]; omega)]
      refine root_of_get (back_out L _ G fun i hi => hr2 ?_)
      exact List.mem_of_getElem? hi
  · simp at h

/-! ### It is what the interpreter of the order written does -/

omit DW in
mutual
theorem sub_id {sl : Nat → V} {pt : Nat → Nat → Nat → V} {bp : Nat → Nat → V} : ∀ (v : V), refsV v = [] → subV sl pt bp v = v
  | .d x, _ => by rw [subV]
  | .agg cs, h => by rw [subV, subL_id cs (by simpa [refsV] using h)]
  | .tup cs, h => by rw [subV, subL_id cs (by simpa [refsV] using h)]
  | .bp r j, h => by simp [refsV] at h
  | .ptr r i j, h => by simp [refsV] at h
  | .sl r, h => by simp [refsV] at h
  | .tl r i, h => by simp [refsV] at h
  | .lst T cs, h => by rw [subV, subL_id cs (by simpa [refsV] using h)]
  | .e0, h => rfl
  | .mp r, h => by simp [refsV] at h
  | .rp rows i j, _ => by rw [subV]
  | .clo f cs, h => by rw [subV, subL_id cs (by simpa [refsV] using h)]
  | .dead, _ => by rw [subV]
theorem subL_id {sl : Nat → V} {pt : Nat → Nat → Nat → V} {bp : Nat → Nat → V} : ∀ (vs : List V), refsL vs = [] → subL sl pt bp vs = vs
  | [], _ => by rw [subL]
  | c :: cs, h => by
    rw [refsL, List.append_eq_nil_iff] at h
    rw [subL, sub_id c h.1, subL_id cs h.2]
end

omit DW in
theorem refs_mem : ∀ {vs : List V}, refsL vs = [] → ∀ (i : Nat) (c : V), vs[i]? = some c → refsV c = []
  | [], _, i, c, h => by simp at h
  | x :: vs, hn, 0, c, h => by
    rw [refsL, List.append_eq_nil_iff] at hn
    simp at h; subst h; exact hn.1
  | x :: vs, hn, i + 1, c, h => by
    rw [refsL, List.append_eq_nil_iff] at hn
    exact refs_mem hn.2 i c (by simpa using h)

omit DW in
theorem datParts_frz {Q : Type} {n : Nat} {t : List V} {F : Fo} : ∀ (ps : List (Nat × Operand)) (i : Nat) (k : List (List D) → Option R), datParts n t i ps k = some r →
    ∃ rows, k rows = some r ∧ ∀ k' : List (List D) → List V → Fo → Option Q, opE.frzParts n i ps t F k' = k' rows t F
  | [], i, k, h => ⟨[], h, fun k' => rfl⟩
  | (j, x) :: ps, i, k, h => by
    simp only [datParts] at h
    split at h
    case h_2 => simp at h
    rename_i h1 h2
    split at h
    case h_2 => simp at h
    rename_i ds hd
    split at h
    case h_2 => simp at h
    rename_i hl
    obtain ⟨rows, h3, h4⟩ := datParts_frz (Q := Q) (F := F) ps (i + 1) _ h
    refine ⟨ds :: rows, h3, fun k' => ?_⟩
    simp only [opE.frzParts, h1, h2]
    rw [frzCells_data (cellsV (val t x)) ds hd hl]
    exact h4 _
where
  frzCells_data {Q : Type} {t : List V} {F : Fo} : ∀ (cs : List V) (ds : List D), toDs cs = some ds → leafDs ds = true → ∀ {k : List D → List V → Fo → Option Q}, frzCells cs t F k = k ds t F
    | [], ds, h, hl, k => by simp only [toDs, Option.some.injEq] at h; subst h; rfl
    | c :: cs, ds, h, hl, k => by
      cases c with
      | d x =>
        simp only [toDs] at h
        split at h
        case h_2 => simp at h
        rename_i ds' hds
        injection h with h
        subst h
        simp only [leafDs] at hl
        split at hl
        case h_2 => simp at hl
        rename_i hx
        simp only [frzCells, hx]
        exact frzCells_data cs ds' hds hl
      | _ => simp [toDs] at h

omit DW in
theorem bld1_data {Q R : Type} {E : Env} {e size m n : Nat} {t : List V} {F : Fo} {ps : List (Nat × Operand)} {q : R} {kk : List (List D) → Option R} (h : datParts m t 0 ps kk = some q) {k1 : V → List V → Fo → Option Q} {k2 : Option Q} :
    bld1 E e size n t F ps k1 k2 = k2 := by
  unfold bld1
  split
  · rfl
  split
  case h_2 => rfl
  rename_i x
  split
  case h_2 => rfl
  rename_i r2 hc
  exfalso
  simp only [datParts] at h
  split at h
  case h_2 => simp at h
  split at h
  case h_2 => simp at h
  rename_i ds hd
  rw [toDs_some hd, List.getElem?_map, Option.map_eq_some_iff] at hc
  obtain ⟨y, _, hy⟩ := hc
  simp at hy

omit DW in
theorem opX_all {Q : Type} {o : Oper} {t : List V} {F F' : Fo} {v : V} (h : opX E call o t F (fun v F => some (v, F)) = some (v, F')) (k : V → List V → Fo → Option Q) : opAll E call o t F k = k v t F' := by
  unfold opX at h
  split at h
  · rename_i ty ho
    have hk : kindE E o.op = 1 := by simp [kindE, kindOf, ho]
    unfold opAll; rw [hk]
    simp only [opE, ho]
    split at h
    case h_2 => simp at h
    rename_i i hi
    simp only [Option.some.injEq, Prod.mk.injEq] at h
    obtain ⟨rfl, rfl⟩ := h
    simp only [hi]
  · rename_i ty x ho
    have hk : kindE E o.op = 1 := by simp [kindE, kindOf, ho]
    unfold opAll; rw [hk]
    simp only [opE, ho]
    split at h
    case h_2 => simp at h
    rename_i hl
    simp only [Option.some.injEq, Prod.mk.injEq] at h
    obtain ⟨rfl, rfl⟩ := h
    simp only [hl]
  · rename_i ty ps ho
    split at h
    case h_2 => simp at h
    rename_i hm
    have hk : kindE E o.op = 1 := by simp [kindE, ho, hm]
    unfold opAll; rw [hk]
    simp only [opE, ho]
    obtain ⟨v', F1, h1, h2⟩ := bldN_uni (R' := Q) h
    simp only [Option.some.injEq, Prod.mk.injEq] at h1
    obtain ⟨rfl, rfl⟩ := h1
    exact h2 _
  · rename_i ty l c ho
    have hk : kindE E o.op = 1 := by simp [kindE, kindOf, ho]
    unfold opAll; rw [hk]
    simp only [opE, ho]
    repeat' split at h
    all_goals first
      | (simp at h; done)
      | (obtain ⟨R, rfl, g⟩ := newK_some h
         clear h
         simp only [*])
  · rename_i ty n ps ho
    have hk : kindE E o.op = 1 := by simp [kindE, kindOf, ho]
    unfold opAll; rw [hk]
    simp only [opE, ho]
    split at h
    case h_2 => simp at h
    rename_i i c1
    split at h
    case h_2 => simp at h
    rename_i e c2
    split at h
    case h_2 => simp at h
    rename_i j c3
    split at h
    case h_2 => simp at h
    rename_i c4
    obtain ⟨rows, h1, h2⟩ := datParts_frz (Q := Q) (F := F) _ _ _ h
    split at h1
    case h_2 => simp at h1
    rename_i d1 d2
    obtain ⟨R, rfl, g⟩ := newK_some h1
    simp only [c1, c2, c3, c4, bld1_data h, h2, d1, d2]
    exact g _ _ rfl
  · rename_i c ho
    split at h
    case h_2 => simp at h
    rename_i f hc
    have hk : kindE E o.op = 2 := by simp [kindE, kindOf, ho, hc]
    unfold opAll; rw [hk]
    simp only [ho]
    unfold opC
    rw [hc]
    split at h
    case h_2 => simp at h
    rename_i g caps hf
    split at h
    case h_2 => simp at h
    rename_i s1 s2
    split at h
    · simp at h
    rename_i s3
    obtain ⟨v', F1, h1, h2⟩ := callOn_one (Q := Q) h
    simp only [Option.some.injEq, Prod.mk.injEq] at h1
    obtain ⟨rfl, rfl⟩ := h1
    simp only [hf, s1, s3]
    cases hm : memN g E.handN
    · rw [hm] at s2
      have s4 : slL (argsV E g t c.args.toList ++ caps) = [] := by
        generalize slL (argsV E g t c.args.toList ++ caps) = L at s2
        cases L with
        | nil => rfl
        | cons => simp [noSl] at s2
      simp only [s4, uniqN, frzAll]; exact h2 _
    · simp only [frzAll]; exact h2 _
  · simp at h

end

section
variable [B : Bad]
variable {E : Env} {P : Program} {call : Ca}

/-- A call of data: what it answers is data, its memory nobody's. -/
theorem data_call (hok : CallOK P call) {w : World} {A : List (Option RI)} {F : Fo} (hR : Roots w A F) {g : FuncId} {vs : List V} {us : List Value} (hV : RelL w A vs us) (hn : refsL vs = []) {v : V} {F1 : Fo} (hcall : call g vs [] = some (v, F1)) :
    Calls P g us.toArray w (fun e w' => ∃ u, e = .returned u ∧ RelV w' A (subV (lendS F1) (fun _ _ _ => .dead) (fun _ _ => .dead) v) u ∧ Below w.heap.size w w') := by
  have hlt : ∀ b, (Own A b ∨ B.bad b) → b < w.heap.size := fun b hb => hb.elim (hR.lt b) (hR.bad b)
  have hR0 : @Roots ⟨fun b => Own A b ∨ B.bad b⟩ w ([] : List (Option RI)) [] := @Roots.mk ⟨fun b => Own A b ∨ B.bad b⟩ _ _ _ rfl (fun _ _ _ _ _ h => by simp at h) (fun _ _ h => by simp at h) (fun _ h => by simp at h) (fun b ⟨r, x, h, _⟩ => by simp at h) (fun b ⟨r, x, h, _⟩ => by simp at h) hlt
  have hfree : ∀ b, @Free B A b → @Free ⟨fun b => Own A b ∨ B.bad b⟩ [] b := fun b hf => ⟨fun ⟨r, x, h, _⟩ => by simp at h, fun hb => hb.elim hf.1 hf.2⟩
  refine ((hok g _ [] v F1 hcall).2 ⟨fun b => Own A b ∨ B.bad b⟩ w [] us.toArray hR0 (by simpa using hV.1) (fun i c u h1 h2 => ?_)).mono ?_
  · have hc := hV.2 i c u h1 (by simpa using h2)
    have h3 := sub_rel2 (B1 := ⟨fun b => Own A b ∨ B.bad b⟩) (B := B) (A' := []) (sl := fun _ => .dead) (pt := fun _ _ _ => .dead) (bp := fun _ _ => .dead) (fun _ _ _ => rfl) (fun b hf _ => hfree b hf)
      (fun _ _ _ _ _ v _ => @RelV.dead ⟨fun b => Own A b ∨ B.bad b⟩ _ _ v) (fun _ _ _ _ _ _ _ _ _ => @RelV.dead ⟨fun b => Own A b ∨ B.bad b⟩ _ _ _) (fun _ _ _ _ => @RelV.dead ⟨fun b => Own A b ∨ B.bad b⟩ _ _ _) (fun _ _ _ _ _ _ => trivial) hc
    rw [sub_id c (refs_mem hn i c h1)] at h3
    exact h3
  · rintro e w' ⟨u, A', he, h1, h2, h3, h4, h5⟩
    have hb : Below w.heap.size w w' := ⟨h3.drawn, h3.os, h3.tape, h3.output, h3.size, fun b hb => h3.block b hb (fun ⟨r, x, h, _⟩ => by simp at h)⟩
    refine ⟨u, he, ?_, hb⟩
    refine sub_rel2 (B1 := B) (B := ⟨fun b => Own A b ∨ B.bad b⟩) (A := A') (A' := A) (fun _ _ _ => rfl) (fun b hf _ => ⟨fun ho => hf.2 (.inl ho), fun ho => hf.2 (.inr ho)⟩)
      (fun r v e es hA u hv => ?_) (fun _ _ _ _ _ _ _ _ _ => .dead _) (fun _ _ _ _ => .dead _) (fun r v T n vs hA => ?_) h2
    unfold lendS
    split
    · rename_i e' es' rows hroot
      obtain ⟨v1, es1, g1, g2, _, _⟩ := @frz_all ⟨fun b => Own A b ∨ B.bad b⟩ _ _ _ h1 _ _ _ _ hroot
      rw [hA] at g1
      injection g1 with g1; injection g1 with g1; injection g1 with g1
      subst g1
      exact .d _ _ ((g2.slOf hv).mono (fun _ _ _ => rfl) (fun b hf _ => ⟨fun ho => hf.2 (.inl ho), fun ho => hf.2 (.inr ho)⟩))
    · rename_i T n rows hroot
      obtain ⟨v1, us1, g1, _⟩ := @nst_at ⟨fun b => Own A b ∨ B.bad b⟩ _ _ _ h1 _ _ _ _ hroot
      rw [hA] at g1
      simp at g1
    · exact .dead _
    · exact @lendN ⟨fun b => Own A b ∨ B.bad b⟩ _ _ _ h1 B _ (fun b hb => ⟨fun ho => hb (.inl ho), fun ho => hb (.inr ho)⟩) _ _ _ _ _ hA

theorem opD_ok (hE : EnvOK E P) (hok : CallOK P call) {w : World} {A : List (Option RI)} {F : Fo} {t : List V} {a : Act} {o : Oper} (hR : Roots w A F) (hS : Slots w A t a.tmps) {v : V} (h : opD E call o t F some = some v)
    {K : Act → World → Prop} {Q : Exit → Act → World → Prop} (hK : ∀ u w', RelV w' A v u → Below w.heap.size w w' → K (a.put o.dst u) w') : o.wp P a w K Q := by
  have quiet : opQ E t F o.op some = some v → o.wp P a w K Q := by
    intro hq
    obtain ⟨v', u, h1, h2, h3⟩ := opQ_sound hE hR hS o.op hq
    injection h1 with h1
    subst h1
    unfold Oper.wp
    rw [h3 w o (Below.refl _ _) rfl]
    exact hK u w h2 (Below.refl _ _)
  unfold opD at h
  split at h
  · rename_i c ho
    split at h
    · rename_i f hc
      unfold opS at h
      rw [hc] at h
      simp only at h
      split at h
      case h_2 => simp at h
      rename_i g caps hf
      split at h
      · rename_i hs
        split at h
        case h_2 => simp at h
        rename_i v0 F1 hcall
        split at h
        case h_2 => simp at h
        rename_i v' hsc
        injection h with h
        subst h
        obtain ⟨us, hV, hrun⟩ := clo_run (E := E) (P := P) hS ho hc hf (hok _ _ _ _ _ hcall).1
        unfold Oper.wp
        rw [hrun w, Oper.upon_enter]
        refine (scal_call2 hok hR hV hcall hsc).mono ?_
        rintro e w' ⟨u, rfl, h2, hb⟩
        exact hK u w' h2 hb
      · rename_i hs
        split at h
        case h_2 => simp at h
        rename_i g1 g2
        split at h
        case h_2 => simp at h
        rename_i v' F1 hcall
        injection h with h
        subst h
        obtain ⟨us, hV, hrun⟩ := clo_run (E := E) (P := P) hS ho hc hf (hok _ _ _ _ _ hcall).1
        unfold Oper.wp
        rw [hrun w, Oper.upon_enter]
        refine (data_call hok hR hV g1 hcall).mono ?_
        rintro e w' ⟨u, rfl, h2, hb⟩
        exact hK u w' h2 hb
    · rename_i hne
      rw [← ho] at h
      exact quiet h
  · rename_i ty n ps ho
    obtain ⟨i, e, j, T, x, hi, hd, hj, hT, ⟨hpa, rfl, hl, hlf, hsm, hpos⟩, h1, _⟩ := lstD_inv h
    injection h1 with h1
    subst h1
    obtain ⟨rfl, hes, hc2, h02⟩ := nstOf_ok hT
    obtain ⟨_, _, h2, _⟩ := hE.ty _ _ hi
    rw [hd] at h2
    obtain ⟨tj, q1, q2, q3, q4, q5⟩ := hE.ty _ _ hj
    obtain ⟨hcr, hone⟩ := cells_rel (val_rel hS x) hlf
    have hul : (a.eval x).cells.toList.length = j.size := by have := hcr.1; omega
    obtain ⟨ob, hob⟩ : ∃ ob, Obj.cells (a.eval x).cells T.e (0, 0) = ob := ⟨_, rfl⟩
    have hb := below_push w ob
    have hnew : ({ w with heap := w.heap.push ob } : World).heap[w.heap.size]? = some ob := push_new _ _
    have hrun : (execOp a.eval o).run P w = .ok (.value (.slice (some ⟨w.heap.size, 0, none⟩) 1 1)) { w with heap := w.heap.push ob } := by
      have hfill := fill_whole j.size [(0, a.eval x)] 0 [] ((Array.range (1 * j.size)).map (j.zero.cells[· % j.zero.cells.size]!)).toList (by simp) (by simp) (fun l p hp => by
        cases l with
        | zero => simp at hp; subst hp; exact ⟨rfl, by simpa using hul⟩
        | succ l => simp at hp)
      simp only [List.nil_append, Array.toArray_toList] at hfill
      have hrun := run_buildSlice (P := P) w ty T.e 1 #[(0, a.eval x)] _ tj j.zero h2 q1 q5 (by rw [q3]; omega) (by rw [q3]; omega) (by rw [q3]; exact hfill)
      simp only [execOp, ho, Sem.run_bind, hpa]
      have hmap : ((#[(0, x)] : Array (Nat × Operand)).map fun x => match x with | (i, x) => (i, a.eval x)) = #[(0, a.eval x)] := by simp
      rw [hmap, hrun, ← hob]
      simp
    unfold Oper.wp
    rw [hrun]
    refine hK _ _ (.lst T _ (a.eval x).cells w.heap.size (by rw [hob]; exact hnew) ⟨fun ho => ?_, fun hbd => ?_⟩ hone (by have := hcr.1; simpa using this) fun i c v h1 h2 => ?_) hb
    · have := hR.lt _ ho; omega
    · have := hR.bad _ hbd; omega
    · exact (hcr.2 i c v h1 (by simpa using h2)).mono (fun b _ hlt => hb.block b hlt) (fun b hf _ => hf) (fun _ _ hx => hx)
  · exact quiet h

end
end Go.Proofs.YtjnhclnnobejgaaE

/- The engine, between: whatever order a region draws, it comes to what the order written comes to; conditions: none. -/
import Derived.Test.YtjnhclnnobejgaaEx
import Derived.Test.YtjnhclnnobejgaaExn
namespace Go.Proofs.YtjnhclnnobejgaaE
open Go.RowKit
set_option linter.unusedVariables false
set_option linter.unusedSimpArgs false
variable [DW : Drw]

section
variable {R : Type} {E : Env} {call : Ca} {r : R} {ops : Array Oper} {k : List V → Fo → Option R} {ts : Nat → List V} {Fs : Nat → Fo} {W : Nat → V} {Ls : Nat → Log} {Qs : Nat → Nat}

/-- What is listed waits for nothing that isn't. -/
def Closed (ops : Array Oper) (listed : Array Bool) : Prop := ∀ (j : Nat) (y : Oper) (e : Edge), ops[j]? = some y → Lp listed j → e ∈ y.after → Region.binds .any e = true → Lp listed e.on

omit DW in
theorem Closed.anc {listed : Array Bool} (h : Closed ops listed) {j i : Nat} (ha : Anc ops j i) : Lp listed j → Lp listed i := by
  induction ha with
  | base j y e h1 h2 h3 => exact fun hl => h j y e h1 hl h2 h3
  | step j i y e h1 h2 h3 h4 ih => exact fun hl => ih (h j y e h1 hl h2 h3)

omit DW in
theorem Closed.ready {listed : Array Bool} (h : Closed ops listed) {j i : Nat} (hr : j ∈ Region.ready .any ops listed) (ha : Anc ops j i) : Lp listed i := by
  obtain ⟨_, o, ho, hall⟩ := mem_ready.1 hr
  cases ha with
  | base _ y e h1 h2 h3 =>
    rw [ho] at h1; injection h1 with h1; subst h1
    exact hall e h2 h3
  | step _ _ y e h1 h2 h3 h4 =>
    rw [ho] at h1; injection h1 with h1; subst h1
    exact h.anc h4 (hall e h2 h3)

omit DW in
theorem lp_set {listed : Array Bool} {i : Nat} (hi : i < listed.size) (j : Nat) : Lp (listed.setIfInBounds i true) j ↔ Lp listed j ∨ j = i := by
  unfold Lp
  by_cases h : i = j
  · subst h; simp [hi]
  · rw [getD_set_ne false h]
    constructor
    · exact .inl
    · rintro (h1 | h1)
      · exact h1
      · exact absurd h1.symm h

omit DW in
theorem unlisted {listed : Array Bool} {i : Nat} (h : listed.getD i true = false) : i < listed.size ∧ ¬ Lp listed i := by
  unfold Lp
  rcases Nat.lt_or_ge i listed.size with h' | h'
  · refine ⟨h', ?_⟩
    simp [h'] at h ⊢
    exact h
  · simp [Array.getElem?_eq_none h'] at h

omit DW in
theorem ready_of {listed : Array Bool} (hB : Lawful E.scal E.pur ops) (hs : listed.size = ops.size) {i : Nat} (hi : i < ops.size) (hu : ¬ Lp listed i) (hlt : ∀ j, j < i → Lp listed j) : i ∈ Region.ready .any ops listed := by
  refine mem_ready.2 ⟨?_, ops[i], by simp [hi], fun e he hb => ?_⟩
  · unfold Lp at hu
    simp [hs, hi] at hu ⊢
    exact hu
  · exact hlt _ (hB.back i ops[i] e (by simp [hi]) he hb)

omit DW in
theorem some_ready {listed : Array Bool} (hB : Lawful E.scal E.pur ops) (hs : listed.size = ops.size) (h : Region.ready .any ops listed = []) : ∀ i, i < ops.size → Lp listed i := by
  intro i
  induction i using Nat.strongRecOn with
  | ind i ih =>
    intro hi
    refine Classical.byContradiction fun hu => ?_
    have := ready_of hB hs hi hu (fun j hj => ih j hj (by omega))
    rw [h] at this
    simp at this

omit DW in
theorem Closed.set {listed : Array Bool} (h : Closed ops listed) {i : Nat} (hr : i ∈ Region.ready .any ops listed) : Closed ops (listed.setIfInBounds i true) := by
  obtain ⟨hu, o, ho, hall⟩ := mem_ready.1 hr
  have hi := (unlisted hu).1
  intro j y e hy hl he hb
  rw [lp_set hi] at hl ⊢
  rcases hl with hl | hl
  · exact .inl (h j y e hy hl he hb)
  · subst hl
    rw [ho] at hy; injection hy with hy; subst hy
    exact .inl (hall e he hb)

omit DW in
theorem looks_same {listed : Array Bool} (hB : Lawful E.scal E.pur ops) (hc : Closed ops listed) {i : Nat} {o : Oper} (ho : ops[i]? = some o) (hr : i ∈ Region.ready .any ops listed) :
    ∀ s ∈ o.looksAt ops, ∀ j y, ops[j]? = some y → y.dst = some s → (Lp listed j ↔ j < i) := by
  intro s hs j y hy hd
  obtain ⟨hu, o', ho', hall⟩ := mem_ready.1 hr
  rw [ho] at ho'; injection ho' with ho'; subst ho'
  have hnu := (unlisted hu).2
  rcases Nat.lt_trichotomy j i with h | h | h
  · refine ⟨fun _ => h, fun _ => ?_⟩
    rcases hB.pair j i y o h hy ho with ⟨e, h1, h2, h3⟩ | hap
    · rw [← h3]; exact hall e h1 h2
    · exact absurd hs ((Oper.apart_spec hap).1 s hd)
  · subst h; exact ⟨fun h => absurd h hnu, fun h => by omega⟩
  · refine ⟨fun hl => ?_, fun hlt => by omega⟩
    rcases hB.pair i j o y h ho hy with ⟨e, h1, h2, h3⟩ | hap
    · exact absurd (by rw [← h3]; exact hc j y e hy hl h1 h2) hnu
    · exact absurd hs ((Oper.apart_spec hap).2.2 s hd)

omit DW in
theorem ts_mix {p : Nat} (hF : ∀ j, j < p → Fact E call ops ts Fs W Ls Qs j) : ∀ i, i ≤ p → Mix ops (ts 0) W (fun j => j < i) (ts i)
  | 0, _ => ⟨rfl, fun s c hs => .inr ⟨fun i o _ _ h => by omega, hs⟩⟩
  | i + 1, hi => by
    obtain ⟨o, ho, h1, _⟩ := hF i (by omega)
    rw [h1]
    exact ((ts_mix hF i (by omega)).put ho).iff fun j => by omega

/-! ### Which roots turn -/
omit DW in
theorem disj_spec : ∀ {L M : List Nat}, disjN L M = true → ∀ r ∈ L, r ∉ M
  | [], M, h, r, hr => by simp at hr
  | s :: L, M, h, r, hr => by
    simp only [disjN] at h
    split at h
    · simp at h
    · rename_i hs
      rcases List.mem_cons.mp hr with rfl | hr
      · intro hm; rw [memN_iff.mpr hm] at hs; cases hs
      · exact disj_spec h r hr
omit DW in
theorem lt_spec {n : Nat} : ∀ {L : List Nat}, allLt n L = true → ∀ r ∈ L, r < n
  | [], h, r, hr => by simp at hr
  | s :: L, h, r, hr => by
    simp only [allLt] at h
    split at h
    · rename_i hs
      rcases List.mem_cons.mp hr with rfl | hr
      · simpa [Nat.blt_eq] using hs
      · exact lt_spec h r hr
    · simp at h
omit DW in
theorem entOK_mem {tab : List Nat} {j : Nat} {app : Bool} {C L : List Nat} {e : Nat × Bool × List Nat × List Nat × Nat} : ∀ {log : Log}, entOK tab j app C L log = true → e ∈ log → entOne tab j app C L e.1 e.2.1 e.2.2.1 e.2.2.2.1 e.2.2.2.2 = true
  | (i, app', C', L', n') :: log, h, he => by
    simp only [entOK] at h
    split at h
    · rename_i h1
      rcases List.mem_cons.mp he with rfl | he
      · exact h1
      · exact entOK_mem h he
    · simp at h
omit DW in
/-- What the check of two says. -/
theorem ent_spec {tab : List Nat} {i j n' : Nat} {app app' : Bool} {C L C' L' : List Nat} (h : entOne tab j app C L i app' C' L' n' = true) :
    (app' = true ∧ app = true) ∨ memB i (getM tab j) = true ∨ ((∀ r ∈ L', r ∉ C) ∧ (∀ r ∈ L, r ∉ C') ∧ (app' = true → ∀ r ∈ L, r < n')) := by
  unfold entOne at h
  split at h
  · exact .inl ⟨rfl, rfl⟩
  · split at h
    · exact .inr (.inl h)
    · rename_i h1
      split at h
      · exact .inr (.inl h)
      · rename_i h2
        split at h
        · exact .inr (.inr ⟨disj_spec h1, disj_spec h2, fun h => by simp at h⟩)
        · split at h
          · rename_i h3
            exact .inr (.inr ⟨disj_spec h1, disj_spec h2, fun _ => lt_spec h3⟩)
          · exact .inr (.inl h)
omit DW in
theorem tail_spec {tab : List Nat} : ∀ (n j : Nat), tailB tab j n = true → ∀ i m, i < m → j ≤ m → m < j + n → memB i (getM tab m) = true
  | 0, j, h, i, m, h1, h2, h3 => by omega
  | n + 1, j, h, i, m, h1, h2, h3 => by
    simp only [tailB, forceM_eq] at h
    split at h
    · rename_i ha
      by_cases hm : m = j
      · subst hm
        have : ∀ (x : Nat) (s : Nat), tailB.allIn s x = true → ∀ i, i < x → memB i s = true := by
          intro x s
          induction x with
          | zero => intro _ i h; omega
          | succ x ih =>
            intro h i hi
            simp only [tailB.allIn] at h
            split at h
            · rename_i hx
              by_cases e : i = x
              · subst e; exact hx
              · exact ih h i (by omega)
            · simp at h
        exact this m _ ha i h1
      · exact tail_spec n (j + 1) h i m h1 (by omega) (by omega)
    · simp at h

/-- Does the operation turn the root, or make it? -/
def Turns (E : Env) (ops : Array Oper) (ts : Nat → List V) (Fs : Nat → Fo) (Qs : Nat → Nat) (m r : Nat) : Prop :=
  ∃ o, ops[m]? = some o ∧ wantB ops.toList (ts m) o = some true ∧ (r ∈ cOf E ops.toList (ts m) (Fs m) (Qs m) o ∨ (kindD E.scal E.pur o = 2 ∧ (Fs m).length ≤ r ∧ r < (Fs (m + 1)).length))

omit DW in
theorem did_len {ops : List Oper} {o : Oper} {t : List V} {F F' : Fo} {q : Nat} {v : V} (h : Did E call ops o t F q v F') : F.length ≤ F'.length ∧ (kindD E.scal E.pur o ≠ 2 → F'.length = F.length) := by
  cases h with
  | quiet v hk h => exact ⟨Nat.le_refl _, fun _ => rfl⟩
  | see v hk h => exact ⟨Nat.le_refl _, fun _ => rfl⟩
  | turn v F' hk h => exact ⟨opX_len h, fun hn => absurd hk hn⟩
  | store F' hk hs h =>
    obtain ⟨s, X, _, _, h1, _⟩ := opS4_one (call := call) (Q := Fo) h
    simp only [Option.some.injEq] at h1
    subst h1
    simp
  | nothing hk hs he => exact ⟨Nat.le_refl _, fun _ => rfl⟩
  | new v F' hk hs h =>
    obtain ⟨v', X, _, _, h1, _⟩ := opN_one (Q := V × Fo) h
    simp only [Option.some.injEq, Prod.mk.injEq] at h1
    obtain ⟨_, rfl⟩ := h1
    simp
omit DW in
theorem did_frame {ops : List Oper} {o : Oper} {t : List V} {F F' : Fo} {q : Nat} {v : V} (h : Did E call ops o t F q v F') {r : Nat} (hc : r ∉ cOf E ops t F q o) (hn : ¬ (kindD E.scal E.pur o = 2 ∧ F.length ≤ r ∧ r < F'.length)) : root F' r = root F r := by
  cases h with
  | quiet v hk h => rfl
  | see v hk h => rfl
  | turn v F' hk h =>
    have hcc : cOf E ops t F q o = chgs E t F o := by simp only [cOf, hk]
    rw [hcc] at hc
    by_cases hr : r < F.length
    · exact opX_frame h hr hc
    · have hr2 : F'.length ≤ r := Nat.le_of_not_lt fun h2 => hn ⟨hk, by omega, h2⟩
      rw [root_out hr2, root_out (by omega)]
  | store F' hk hs h =>
    obtain ⟨s, X, e1, _, h1, _⟩ := opS4_one (call := call) (Q := Fo) h
    simp only [Option.some.injEq] at h1
    subst h1
    have hcc : cOf E ops t F q o = [s] := by simp only [cOf, hk, hs, e1]
    rw [hcc] at hc
    rw [root_set, if_neg (fun h => hc (by simp [h.1]))]
  | nothing hk hs he => rfl
  | new v F' hk hs h =>
    obtain ⟨v', X, _, _, h1, _⟩ := opN_one (Q := V × Fo) h
    simp only [Option.some.injEq, Prod.mk.injEq] at h1
    obtain ⟨_, rfl⟩ := h1
    have hcc : cOf E ops t F q o = [q] := by rcases hs with hs | hs <;> simp only [cOf, hk, hs]
    rw [hcc] at hc
    rw [root_set, if_neg (fun h => hc (by simp [h.1]))]

section
variable {p : Nat} (hF : ∀ j, j < p → Fact E call ops ts Fs W Ls Qs j)
include hF

omit DW in
theorem fs_frame {m r : Nat} (hm : m < p) (h : ¬ Turns E ops ts Fs Qs m r) : root (Fs (m + 1)) r = root (Fs m) r := by
  obtain ⟨o, ho, _, _, h4⟩ := hF m hm
  rcases h4 with ⟨_, _, h4, _⟩ | ⟨hw, hd, _⟩
  · rw [h4]
  · exact did_frame hd (fun hc => h ⟨o, ho, hw, .inl hc⟩) (fun hn => h ⟨o, ho, hw, .inr hn⟩)
omit DW in
theorem len_le : ∀ (i j : Nat), i ≤ j → j ≤ p → (Fs i).length ≤ (Fs j).length := by
  intro i j h
  induction h with
  | refl => intro _; exact Nat.le_refl _
  | step h ih =>
    rename_i m
    intro hp
    refine Nat.le_trans (ih (by omega)) ?_
    obtain ⟨o, ho, _, _, h4⟩ := hF m (by omega)
    rcases h4 with ⟨_, _, h4, _⟩ | ⟨_, hd, _⟩
    · rw [show Fs (m + 1) = Fs m from h4]; exact Nat.le_refl _
    · exact (did_len hd).1
omit DW in
theorem q_le : ∀ (i j : Nat), i ≤ j → j ≤ p → Qs i ≤ Qs j := by
  intro i j h
  induction h with
  | refl => intro _; exact Nat.le_refl _
  | step h ih =>
    rename_i m
    intro hp
    obtain ⟨o, ho, _, h3, _⟩ := hF m (by omega)
    exact Nat.le_trans (ih (by omega)) h3
omit DW in
theorem len_same : ∀ (a b : Nat), a ≤ b → b ≤ p → (∀ m o, a ≤ m → m < b → ops[m]? = some o → kindD E.scal E.pur o = 2 → wantB ops.toList (ts m) o = some true → False) → (Fs b).length = (Fs a).length := by
  intro a b h
  induction h with
  | refl => intro _ _; rfl
  | step h ih =>
    rename_i m
    intro hp hn
    obtain ⟨o, ho, _, _, h4⟩ := hF m (by omega)
    rw [← ih (by omega) (fun m' o' h1 h2 => hn m' o' h1 (by omega))]
    rcases h4 with ⟨_, _, h4, _⟩ | ⟨hw, hd, _⟩
    · rw [show Fs (m + 1) = Fs m from h4]
    · exact (did_len hd).2 fun hk => hn m o h (by omega) ho hk hw
omit DW in
theorem cross {a b r : Nat} (hab : a ≤ b) (hb : b ≤ p) (h1 : (Fs a).length ≤ r) (h2 : r < (Fs b).length) : ∃ m o, a ≤ m ∧ m < b ∧ ops[m]? = some o ∧ wantB ops.toList (ts m) o = some true ∧ kindD E.scal E.pur o = 2 ∧ (Fs m).length ≤ r ∧ r < (Fs (m + 1)).length := by
  induction hab with
  | refl => omega
  | step h ih =>
    rename_i m
    by_cases hm : r < (Fs m).length
    · obtain ⟨m', o', g1, g2, g3⟩ := ih (by omega) hm
      exact ⟨m', o', g1, by omega, g3⟩
    · obtain ⟨o, ho, _, _, h4⟩ := hF m (by omega)
      rcases h4 with ⟨_, _, h4, _⟩ | ⟨hw, hd, _⟩
      · rw [show Fs (m + 1) = Fs m from h4] at h2; omega
      · refine ⟨m, o, h, by omega, ho, hw, Classical.byContradiction fun hk => ?_, by omega, h2⟩
        have := (did_len hd).2 hk
        have h2 : r < (Fs (m + 1)).length := h2
        omega
omit DW in
theorem log_keep {e : Nat × Bool × List Nat × List Nat × Nat} : ∀ (i j : Nat), i ≤ j → j ≤ p → e ∈ Ls i → e ∈ Ls j := by
  intro i j h
  induction h with
  | refl => intro _ h; exact h
  | step h ih =>
    rename_i m
    intro hp he
    have := ih (by omega) he
    obtain ⟨o, ho, _, _, h4⟩ := hF m (by omega)
    rcases h4 with ⟨_, _, _, h4⟩ | ⟨_, _, _, ⟨_, h4⟩ | ⟨_, _, _, _, _, h4⟩⟩
    all_goals (first | (rw [show Ls (m + 1) = Ls m from h4]; exact this) | (show e ∈ Ls (m + 1); rw [h4]; exact List.mem_cons_of_mem _ this))
omit DW in
/-- What is looked at and what turns it wait for each other. -/
theorem pairs (hB : Lawful E.scal E.pur ops) {i m r : Nat} {o : Oper} (hi : i < p) (hm : m < p) (hne : i ≠ m) (ho : ops[i]? = some o) (hw : wantB ops.toList (ts i) o = some true) (hr : r ∈ lOf E ops.toList (ts i) (Fs i) (Qs i) o)
    (ht : Turns E ops ts Fs Qs m r) : (m < i → Anc ops i m) ∧ (i < m → Anc ops m i) := by
  obtain ⟨y, hy, hwy, ht⟩ := ht
  obtain ⟨o', ho', _, _, h4⟩ := hF i hi
  rw [ho] at ho'; injection ho' with ho'; subst ho'
  rcases h4 with ⟨h4, _⟩ | ⟨_, hd, hlt, h4⟩
  · rw [hw] at h4; cases h4
  obtain ⟨y', hy', _, _, h5⟩ := hF m hm
  rw [hy] at hy'; injection hy' with hy'; subst hy'
  rcases h5 with ⟨h5, _⟩ | ⟨_, hdy, hlty, h5⟩
  · rw [hwy] at h5; cases h5
  have hri := lt_spec hlt r hr
  have no0 : kindD E.scal E.pur o ≠ 0 := fun hk => by simp [lOf, cOf, hk] at hr
  have no0y : kindD E.scal E.pur y ≠ 0 := fun hk => by
    rcases ht with ht | ⟨ht, _⟩
    · simp [cOf, hk] at ht
    · rw [hk] at ht; cases ht
  rcases h4 with ⟨hk, _⟩ | ⟨app, n, ha, hn, hent, hlog⟩
  · rcases hk with hk | ⟨hk, hm⟩
    · exact absurd hk no0
    · simp [lOf, cOf, hk, hm] at hr
  rcases h5 with ⟨hk, _⟩ | ⟨appy, ny, hay, hny, henty, hlogy⟩
  · rcases hk with hk | ⟨hk, hm⟩
    · exact absurd hk no0y
    · rcases ht with ht | ⟨ht, _⟩
      · simp [cOf, hk, hm] at ht
      · rw [hk] at ht; cases ht
  refine ⟨fun hmi => ?_, fun him => ?_⟩
  · have hmem : (m, appy, cOf E ops.toList (ts m) (Fs m) (Qs m) y, lOf E ops.toList (ts m) (Fs m) (Qs m) y, ny) ∈ Ls i := log_keep hF (m + 1) i (by omega) (by omega) (by rw [hlogy]; exact List.mem_cons_self)
    rcases ent_spec (entOK_mem hent hmem) with ⟨e1, e2⟩ | e | ⟨e1, e2, e3⟩
    · exact hB.two m i y o hmi hy ho (hay.mp e1) (ha.mp e2)
    · exact tab_ancB e
    · rcases ht with ht | ⟨hk2, h6, h7⟩
      · exact absurd ht (e2 r hr)
      · have := e3 (hay.mpr hk2) r hr
        dsimp only at this
        rw [hny (hay.mpr hk2)] at this
        omega
  · have hmem : (i, app, cOf E ops.toList (ts i) (Fs i) (Qs i) o, lOf E ops.toList (ts i) (Fs i) (Qs i) o, n) ∈ Ls m := log_keep hF (i + 1) m (by omega) (by omega) (by rw [hlog]; exact List.mem_cons_self)
    rcases ent_spec (entOK_mem henty hmem) with ⟨e1, e2⟩ | e | ⟨e1, e2, e3⟩
    · exact hB.two i m o y him ho hy (ha.mp e1) (hay.mp e2)
    · exact tab_ancB e
    · rcases ht with ht | ⟨hk2, h6, h7⟩
      · exact absurd ht (e1 r hr)
      · have := len_le hF i m (by omega) (by omega)
        omega
omit DW in
/-- The same root at two places, if nothing between turns it. -/
theorem same_root {a b r : Nat} (hab : a ≤ b) (hb : b ≤ p) (h : ∀ m, a ≤ m → m < b → ¬ Turns E ops ts Fs Qs m r) : root (Fs b) r = root (Fs a) r := by
  induction hab with
  | refl => rfl
  | step h' ih =>
    rename_i m
    rw [fs_frame hF (by omega) (h m h' (by omega))]
    exact ih (by omega) fun m' h1 h2 => h m' h1 (by omega)
end

/-- The state when some of the operations have been. -/
structure Part (E : Env) (ops : Array Oper) (ts : Nat → List V) (Fs : Nat → Fo) (W : Nat → V) (Qs : Nat → Nat) (p : Nat) (listed : Array Bool) (tL : List V) (FL : Fo) : Prop where
  size : listed.size = ops.size
  lt : ∀ i, Lp listed i → i < p
  closed : Closed ops listed
  mix : Mix ops (ts 0) W (Lp listed) tL
  len : ∃ b, b ≤ p ∧ FL.length = (Fs b).length ∧ ∀ i o, i < p → ops[i]? = some o → kindD E.scal E.pur o = 2 → (Lp listed i ↔ i < b)
  at_ : ∀ r, ∃ c, c ≤ p ∧ root FL r = root (Fs c) r ∧ ∀ m, m < p → Turns E ops ts Fs Qs m r → (Lp listed m ↔ m < c)

omit DW in
theorem fo_ext {F G : Fo} (hl : F.length = G.length) (h : ∀ r, root F r = root G r) : F = G := by
  have e : ∀ (F : Fo) (r : Nat), root F r = (F[r]?).join := by
    intro F
    induction F with
    | nil => intro r; simp [root]
    | cons R F ih =>
      intro r
      cases r with
      | zero => simp [root]
      | succ r => simp only [root, List.getElem?_cons_succ]; exact ih r
  refine List.ext_getElem hl fun i h1 h2 => ?_
  have := h i
  rw [e, e, List.getElem?_eq_getElem h1, List.getElem?_eq_getElem h2] at this
  simpa using this

omit DW in
theorem Part.full {p : Nat} {listed : Array Bool} {tL : List V} {FL : Fo} (hB : Lawful E.scal E.pur ops) (hF : ∀ j, j < p → Fact E call ops ts Fs W Ls Qs j) (h : Part E ops ts Fs W Qs p listed tL FL) (hall : ∀ i, i < p → Lp listed i) : tL = ts p ∧ FL = Fs p := by
  refine ⟨?_, ?_⟩
  · refine List.ext_getElem? fun s => ?_
    exact h.mix.agree hB.dst (ts_mix hF p (Nat.le_refl _)) s fun j y _ _ => ⟨fun hj => h.lt j hj, fun hj => hall j hj⟩
  · obtain ⟨b, hb, h1, h2⟩ := h.len
    refine fo_ext ?_ fun r => ?_
    · rw [h1]
      exact (len_same hF b p hb (Nat.le_refl _) fun m o g1 g2 g3 g4 _ => by
        have := (h2 m o g2 g3 g4).mp (hall m g2)
        omega).symm
    · obtain ⟨c, hc, e1, e2⟩ := h.at_ r
      rw [e1]
      exact (same_root hF hc (Nat.le_refl _) fun m g1 g2 ht => by
        have := (e2 m g2 ht).mp (hall m g2)
        omega).symm

omit DW in
/-- One operation, whichever it is, at the plain data. -/
theorem Part.step {p : Nat} {listed : Array Bool} {tL : List V} {FL : Fo} (hB : Lawful E.scal E.pur ops) (hF : ∀ j, j < p → Fact E call ops ts Fs W Ls Qs j) (h : Part E ops ts Fs W Qs p listed tL FL) {i : Nat} (hi : i < p)
    (hr : i ∈ Region.ready .any ops listed) : ∃ o FN, ops[i]? = some o ∧ Part E ops ts Fs W Qs p (listed.setIfInBounds i true) (put tL o.dst (W i)) FN ∧
      ((wantB ops.toList tL o = some false ∧ W i = .tup [] ∧ FN = FL) ∨
       (wantB ops.toList tL o = some true ∧ ∀ {Q : Type} (k : V → List V → Fo → Option Q), opAll E call o tL FL k = k (W i) tL FN) ∨
       (wantB ops.toList tL o = some true ∧ opD E call o tL FL some = some (W i) ∧ FN = FL) ∨
       (wantB ops.toList tL o = some true ∧ opN E tL o (Qs i) FL (fun v F => some (v, F)) = some (W i, FN)) ∨
       (wantB ops.toList tL o = some true ∧ emptyOK E o = true ∧ W i = .e0 ∧ FN = FL)) := by
  obtain ⟨o, ho, h1, _, h4⟩ := hF i hi
  have hu := unlisted (mem_ready.1 hr).1
  have hin : i < listed.size := hu.1
  have hsame : ∀ s ∈ o.looksAt ops, tL[s]? = (ts i)[s]? := fun s hs => h.mix.agree hB.dst (ts_mix hF i (by omega)) s fun j y hy hd => looks_same hB h.closed ho hr s hs j y hy hd
  have hv := look_val hsame
  have hw := look_want hsame
  have hmix : Mix ops (ts 0) W (Lp (listed.setIfInBounds i true)) (put tL o.dst (W i)) := (h.mix.put ho).iff fun j => (lp_set hin j).symm
  have hlt : ∀ j, Lp (listed.setIfInBounds i true) j → j < p := fun j hj => by
    rcases (lp_set hin j).mp hj with h1 | h1
    · exact h.lt j h1
    · omega
  obtain ⟨b, hb, hFb, hbi⟩ := h.len
  -- a root that the operation does not turn
  have oldAt : ∀ r, ¬ Turns E ops ts Fs Qs i r → ∃ c, c ≤ p ∧ root FL r = root (Fs c) r ∧ ∀ m, m < p → Turns E ops ts Fs Qs m r → (Lp (listed.setIfInBounds i true) m ↔ m < c) := fun r hn => by
    obtain ⟨c, hc, e1, e2⟩ := h.at_ r
    refine ⟨c, hc, e1, fun m hm ht => ?_⟩
    rw [lp_set hin, ← e2 m hm ht]
    exact ⟨fun h => h.elim id fun e => by subst e; exact absurd ht hn, .inl⟩
  rcases h4 with ⟨g1, g2, g3, _⟩ | ⟨g1, hd, glt, _⟩
  · -- it is not wanted
    have hnt : ∀ r, ¬ Turns E ops ts Fs Qs i r := fun r ⟨o', ho', hw', _⟩ => by
      rw [ho] at ho'; injection ho' with ho'; subst ho'; rw [g1] at hw'; cases hw'
    refine ⟨o, FL, ho, ⟨by simp [h.size], hlt, h.closed.set hr, hmix, ?_, fun r => oldAt r (hnt r)⟩, .inl ⟨by rw [hw]; exact g1, g2, rfl⟩⟩
    by_cases hk : kindD E.scal E.pur o = 2
    · -- as if it had been: no root is made
      have hbl : ¬ i < b := fun hlt => hu.2 ((hbi i o hi ho hk).mpr hlt)
      refine ⟨i + 1, by omega, ?_, fun j y hj hy hk2 => ?_⟩
      · rw [g3, hFb]
        exact (len_same hF b i (by omega) (by omega) fun m y e1 e2 e3 e4 _ => by
          have := (hbi m y (by omega) e3 e4).mp (h.closed.ready hr (hB.two m i y o e2 e3 ho e4 hk))
          omega).symm
      · rw [lp_set hin]
        rcases Nat.lt_trichotomy j i with hji | hji | hji
        · exact ⟨fun _ => by omega, fun _ => .inl (h.closed.ready hr (hB.two j i y o hji hy ho hk2 hk))⟩
        · subst hji; exact ⟨fun _ => by omega, fun _ => .inr rfl⟩
        · refine ⟨fun hl => ?_, fun hl => by omega⟩
          rcases hl with hl | hl
          · exact absurd (h.closed.anc (hB.two i j o y hji ho hy hk hk2) hl) hu.2
          · omega
    · exact ⟨b, hb, hFb, fun j y hj hy hk2 => by
        rw [lp_set hin, ← hbi j y hj hy hk2]
        exact ⟨fun h => h.elim id fun e => by subst e; rw [ho] at hy; injection hy with hy; subst hy; exact absurd hk2 hk, .inl⟩⟩
  -- it is wanted
  have waits : ∀ m r, m < p → m ≠ i → r ∈ lOf E ops.toList (ts i) (Fs i) (Qs i) o → Turns E ops ts Fs Qs m r → (m < i → Lp listed m) ∧ (i < m → ¬ Lp listed m) := fun m r hm hne hrl ht => by
    have hp := pairs hF hB hi hm (fun e => hne e.symm) ho g1 hrl ht
    exact ⟨fun hmi => h.closed.ready hr (hp.1 hmi), fun him hl => hu.2 (h.closed.anc (hp.2 him) hl)⟩
  have seen : ∀ r ∈ lOf E ops.toList (ts i) (Fs i) (Qs i) o, root FL r = root (Fs i) r := fun r hrl => by
    obtain ⟨c, hc, e1, e2⟩ := h.at_ r
    rw [e1]
    rcases Nat.le_total c i with hci | hci
    · exact (same_root hF hci (by omega) fun m m1 m2 ht => by
        have := (e2 m (by omega) ht).mp ((waits m r (by omega) (by omega) hrl ht).1 m2)
        omega).symm
    · refine same_root hF hci hc fun m m1 m2 ht => ?_
      have hl := (e2 m (by omega) ht).mpr m2
      by_cases e : m = i
      · subst e; exact hu.2 hl
      · exact (waits m r (by omega) e hrl ht).2 (by omega) hl
  have inside : ∀ r ∈ lOf E ops.toList (ts i) (Fs i) (Qs i) o, r < FL.length := fun r hrl => by
    refine Nat.lt_of_not_le fun hle => ?_
    have hri := lt_spec glt r hrl
    rw [hFb] at hle
    have hbi2 : b ≤ i := Nat.le_of_not_lt fun hlt => by
      have := len_le hF i b (by omega) hb
      omega
    obtain ⟨m, y, m1, m2, hy, hwy, hk2, m3, m4⟩ := cross hF hbi2 (by omega) hle hri
    have hl := (waits m r (by omega) (by omega) hrl ⟨y, hy, hwy, .inr ⟨hk2, m3, m4⟩⟩).1 m2
    have := (hbi m y (by omega) hy hk2).mp hl
    omega
  have keepLen : ∀ FN : Fo, kindD E.scal E.pur o ≠ 2 → FN.length = FL.length → ∃ b, b ≤ p ∧ FN.length = (Fs b).length ∧ ∀ j y, j < p → ops[j]? = some y → kindD E.scal E.pur y = 2 → (Lp (listed.setIfInBounds i true) j ↔ j < b) := fun FN hk hl =>
    ⟨b, hb, hl.trans hFb, fun j y hj hy hk2 => by
      rw [lp_set hin, ← hbi j y hj hy hk2]
      exact ⟨fun h => h.elim id fun e => by subst e; rw [ho] at hy; injection hy with hy; subst hy; exact absurd hk2 hk, .inl⟩⟩
  have noTurn : cOf E ops.toList (ts i) (Fs i) (Qs i) o = [] → kindD E.scal E.pur o ≠ 2 → ∀ r, ¬ Turns E ops ts Fs Qs i r := fun hc hk r ⟨o', ho', _, ht⟩ => by
    rw [ho] at ho'; injection ho' with ho'; subst ho'
    rcases ht with ht | ⟨ht, _⟩
    · rw [hc] at ht; simp at ht
    · exact hk ht
  -- a root that it turns
  have newAt : ∀ (FN : Fo) r, Turns E ops ts Fs Qs i r → root FN r = root (Fs (i + 1)) r → ∃ c, c ≤ p ∧ root FN r = root (Fs c) r ∧ ∀ m, m < p → Turns E ops ts Fs Qs m r → (Lp (listed.setIfInBounds i true) m ↔ m < c) := fun FN r ht he => by
    refine ⟨i + 1, by omega, he, fun m hm htm => ?_⟩
    rw [lp_set hin]
    have ht0 := ht
    obtain ⟨o', ho', hwo, ht⟩ := ht
    rw [ho] at ho'; injection ho' with ho'; subst ho'
    rcases Nat.lt_trichotomy m i with hmi | hmi | hmi
    · refine ⟨fun _ => by omega, fun _ => .inl ?_⟩
      rcases ht with ht | ⟨hk, t1, t2⟩
      · exact (waits m r hm (by omega) (c_in_l ht) htm).1 hmi
      · exfalso
        obtain ⟨y, hy, hwy, hty⟩ := htm
        have hle := len_le hF (m + 1) i (by omega) (by omega)
        rcases hty with hty | ⟨_, _, hty⟩
        · obtain ⟨y', hy', _, _, h5⟩ := hF m hm
          rw [hy] at hy'; injection hy' with hy'; subst hy'
          rcases h5 with ⟨h5, _⟩ | ⟨_, _, hlty, _⟩
          · rw [hwy] at h5; cases h5
          · have := lt_spec hlty r (c_in_l hty)
            have := len_le hF m i (by omega) (by omega)
            omega
        · omega
    · subst hmi; exact ⟨fun _ => by omega, fun _ => .inr rfl⟩
    · refine ⟨fun hl => ?_, fun hl => by omega⟩
      rcases hl with hl | hl
      · exfalso
        rcases ht with ht | ⟨hk, t1, t2⟩
        · exact (waits m r hm (by omega) (c_in_l ht) htm).2 hmi hl
        · obtain ⟨y, hy, hwy, hty⟩ := htm
          rcases hty with hty | ⟨_, hty, _⟩
          · have hp := pairs hF hB hm hi (by omega) hy hwy (c_in_l hty) ht0
            exact hu.2 (h.closed.anc (hp.1 hmi) hl)
          · have := len_le hF (i + 1) m (by omega) (by omega)
            omega
      · omega
  generalize hW : W i = v at hd hmix ⊢
  generalize hF1 : Fs (i + 1) = F1 at hd
  have hwt : wantB ops.toList tL o = some true := by rw [hw]; exact g1
  cases hd with
  | quiet _ hk hop =>
    have hc : cOf E ops.toList (ts i) (Fs i) (Qs i) o = [] := by simp only [cOf, hk]
    refine ⟨o, FL, ho, ⟨by simp [h.size], hlt, h.closed.set hr, hmix, keepLen FL (by rw [hk]; decide) rfl, fun r => oldAt r (noTurn hc (by rw [hk]; decide) r)⟩, .inr (.inr (.inl ⟨hwt, ?_, rfl⟩))⟩
    rw [opD_congr hv, opD_noF (F' := Fs i) hk]; exact hop
  | see _ hk hop =>
    have hc : cOf E ops.toList (ts i) (Fs i) (Qs i) o = [] := by simp only [cOf, hk]
    refine ⟨o, FL, ho, ⟨by simp [h.size], hlt, h.closed.set hr, hmix, keepLen FL (by rw [hk]; decide) rfl, fun r => oldAt r (noTurn hc (by rw [hk]; decide) r)⟩, .inr (.inr (.inl ⟨hwt, ?_, rfl⟩))⟩
    have hll : lOf E ops.toList (ts i) (Fs i) (Qs i) o = looks (ts i) (Fs i) o := by simp only [lOf, hk]
    rw [opD_congr hv, ← hop]
    exact (opD_frame (F := Fs i) (F' := FL) fun r hr => (seen r (by rw [hll]; exact hr)).symm).symm
  | turn _ _ hk hop =>
    have hc : cOf E ops.toList (ts i) (Fs i) (Qs i) o = chgs E (ts i) (Fs i) o := by simp only [cOf, hk]
    have hll : lOf E ops.toList (ts i) (Fs i) (Qs i) o = chgs E (ts i) (Fs i) o := by unfold lOf; rw [hk]; exact hc
    have hbl : ¬ i < b := fun hlt => hu.2 ((hbi i o hi ho hk).mpr hlt)
    have hlen : FL.length = (Fs i).length := by
      rw [hFb]
      exact (len_same hF b i (by omega) (by omega) fun m y e1 e2 e3 e4 _ => by
        have := (hbi m y (by omega) e3 e4).mp (h.closed.ready hr (hB.two m i y o e2 e3 ho e4 hk))
        omega).symm
    obtain ⟨_, G', k1, k2, k3, k4⟩ := opX_local hop hlen (fun r hr => seen r (by rw [hll]; exact hr))
    refine ⟨o, G', ho, ⟨by simp [h.size], hlt, h.closed.set hr, hmix, ⟨i + 1, by omega, by rw [k2, hF1], fun j y hj hy hk2 => ?_⟩, fun r => ?_⟩, .inr (.inl ⟨hwt, fun k => opX_all ?_ k⟩)⟩
    · rw [lp_set hin]
      rcases Nat.lt_trichotomy j i with hji | hji | hji
      · exact ⟨fun _ => by omega, fun _ => .inl (h.closed.ready hr (hB.two j i y o hji hy ho hk2 hk))⟩
      · subst hji; exact ⟨fun _ => by omega, fun _ => .inr rfl⟩
      · refine ⟨fun hl => ?_, fun hl => by omega⟩
        rcases hl with hl | hl
        · exact absurd (h.closed.anc (hB.two i j o y hji ho hy hk hk2) hl) hu.2
        · omega
    · by_cases ht : Turns E ops ts Fs Qs i r
      · refine newAt G' r ht ?_
        have ht2 := ht
        obtain ⟨o', ho', _, ht2⟩ := ht2
        rw [ho] at ho'; injection ho' with ho'; subst ho'
        rw [hF1]
        rcases ht2 with ht2 | ⟨_, ht2, _⟩
        · exact k3 r (.inl (by rw [← hc]; exact ht2))
        · exact k3 r (.inr ht2)
      · obtain ⟨c, c1, c2, c3⟩ := oldAt r ht
        refine ⟨c, c1, ?_, c3⟩
        rw [← c2]
        by_cases hrl : r < (Fs i).length
        · exact k4 r hrl fun hr => ht ⟨o, ho, g1, .inl (by rw [hc]; exact hr)⟩
        · have : F1.length ≤ r := Nat.le_of_not_lt fun h2 => ht ⟨o, ho, g1, .inr ⟨hk, by omega, by rw [hF1]; exact h2⟩⟩
          rw [root_out (by omega), root_out (by omega)]
    · rw [opX_congr hv]; exact k1
  | store _ hk hs hop =>
    rw [← opS4_congr hv] at hop
    obtain ⟨s, X, e1, e2, h2, _, h3⟩ := opS4_one (call := call) (Q := Fo) hop
    simp only [Option.some.injEq] at h2
    have hst : storeAt (ts i) o = some s := by
      rw [← e1]; unfold storeAt
      split
      · rename_i ty x u hoo; rw [hoo] at hv; simp only [hv x (by simp [Op.operands]), hv u (by simp [Op.operands])]
      · rfl
    have hc : cOf E ops.toList (ts i) (Fs i) (Qs i) o = [s] := by simp only [cOf, hk, hs, hst]
    have hll : lOf E ops.toList (ts i) (Fs i) (Qs i) o = [s] := by simp only [lOf, hk, hs]; exact hc
    have hsee := seen s (by rw [hll]; simp)
    have hins := inside s (by rw [hll]; simp)
    refine ⟨o, FL.set s (some X), ho, ⟨by simp [h.size], hlt, h.closed.set hr, hmix, keepLen _ (by rw [hk]; decide) (by simp), fun r => ?_⟩, .inr (.inl ⟨hwt, fun {Q'} k => h3 Q' FL k hsee⟩)⟩
    by_cases hrs : r = s
    · subst hrs
      refine newAt _ r ⟨o, ho, g1, .inl (by rw [hc]; simp)⟩ ?_
      rw [hF1, ← h2, root_set, root_set, if_pos ⟨rfl, hins⟩, if_pos ⟨rfl, e2⟩]
    · obtain ⟨c, c1, c2, c3⟩ := oldAt r fun ⟨o', ho', _, ht⟩ => by
        rw [ho] at ho'; injection ho' with ho'; subst ho'
        rcases ht with ht | ⟨ht, _⟩
        · rw [hc] at ht; exact hrs (by simpa using ht)
        · rw [hk] at ht; cases ht
      exact ⟨c, c1, by rw [root_set, if_neg (fun h => hrs h.1)]; exact c2, c3⟩
  | nothing hk hs he =>
    have hc : cOf E ops.toList (ts i) (Fs i) (Qs i) o = [] := by simp only [cOf, hk, hs]
    refine ⟨o, FL, ho, ⟨by simp [h.size], hlt, h.closed.set hr, hmix, keepLen FL (by rw [hk]; decide) rfl, fun r => oldAt r (noTurn hc (by rw [hk]; decide) r)⟩, .inr (.inr (.inr (.inr ⟨hwt, he, rfl, rfl⟩)))⟩
  | new _ _ hk hs hop =>
    rw [← opN_congr hv] at hop
    obtain ⟨v', X, e1, e2, h2, h3⟩ := opN_one (Q := V × Fo) hop
    simp only [Option.some.injEq, Prod.mk.injEq] at h2
    obtain ⟨rfl, h2⟩ := h2
    have hc : cOf E ops.toList (ts i) (Fs i) (Qs i) o = [Qs i] := by rcases hs with hs | hs <;> simp only [cOf, hk, hs]
    have hll : lOf E ops.toList (ts i) (Fs i) (Qs i) o = Qs i :: newL (ts i) o := by rcases hs with hs | hs <;> simp only [lOf, hk, hs]
    have hsee := seen (Qs i) (by rw [hll]; simp)
    have hins := inside (Qs i) (by rw [hll]; simp)
    refine ⟨o, FL.set (Qs i) (some X), ho, ⟨by simp [h.size], hlt, h.closed.set hr, hmix, keepLen _ (by rw [hk]; decide) (by simp), fun r => ?_⟩, .inr (.inr (.inr (.inl ⟨hwt, h3 FL _ (by rw [hsee]; exact e1) hins fun r hr => seen r (by rw [hll]; exact List.mem_cons_of_mem _ (by rw [← newL_congr hv]; exact hr))⟩)))⟩
    by_cases hrs : r = Qs i
    · subst hrs
      refine newAt _ _ ⟨o, ho, g1, .inl (by rw [hc]; simp)⟩ ?_
      rw [hF1, ← h2, root_set, root_set, if_pos ⟨rfl, hins⟩, if_pos ⟨rfl, e2⟩]
    · obtain ⟨c, c1, c2, c3⟩ := oldAt r fun ⟨o', ho', _, ht⟩ => by
        rw [ho] at ho'; injection ho' with ho'; subst ho'
        rcases ht with ht | ⟨ht, _⟩
        · rw [hc] at ht; exact hrs (by simpa using ht)
        · rw [hk] at ht; cases ht
      exact ⟨c, c1, by rw [root_set, if_neg (fun h => hrs h.1)]; exact c2, c3⟩

omit DW in
theorem count_set {listed : Array Bool} {i : Nat} (h : listed.getD i true = false) : (listed.setIfInBounds i true).toList.countP (fun b => !b) + 1 = listed.toList.countP (fun b => !b) := by
  have hi := (unlisted h).1
  have hf : listed[i] = false := by simp [hi] at h; exact h
  rw [Array.toList_setIfInBounds, List.countP_set (by simpa using hi)]
  have hpos : 0 < listed.toList.countP (fun b => !b) := by
    rw [List.countP_pos_iff]
    exact ⟨listed[i], by simp, by simp [hf]⟩
  rw [if_pos (by simp [hf]), if_neg (by simp)]
  omega

omit DW in
theorem count_all {listed : Array Bool} (p : Nat) (hp : p ≤ listed.size) (h : ∀ i, Lp listed i ↔ i < p) : listed.toList.countP (fun b => !b) + p = listed.size := by
  have : listed.toList = List.replicate p true ++ List.replicate (listed.size - p) false := by
    refine List.ext_getElem? fun i => ?_
    have hi := h i
    unfold Lp at hi
    rw [Array.getElem?_toList]
    by_cases h1 : i < p
    · rw [List.getElem?_append_left (by simpa using h1), List.getElem?_replicate, if_pos h1]
      have := hi.mpr h1
      have hs : i < listed.size := by omega
      simp [hs] at this ⊢
      exact this
    · rw [List.getElem?_append_right (by simp; omega), List.getElem?_replicate]
      simp only [List.length_replicate]
      by_cases hs : i < listed.size
      · rw [if_pos (by omega)]
        have : ¬ listed.getD i false = true := fun hh => h1 (hi.mp hh)
        simp [hs] at this ⊢
        exact this
      · rw [if_neg (by omega), Array.getElem?_eq_none (by omega)]
  rw [this, List.countP_append, List.countP_eq_zero.mpr (fun b hb => by rw [List.eq_of_mem_replicate hb]; simp), List.countP_replicate]
  simp
  omega

end

section
variable [B : Bad]
variable {R : Type} {E : Env} {P : Program} {call : Ca} {r : R} {ops : Array Oper} {k : List V → Fo → Option R} {ts : Nat → List V} {Fs : Nat → Fo} {W : Nat → V} {Ls : Nat → Log} {Qs : Nat → Nat}

omit B in
omit DW in
theorem tail_of (hB : Lawful E.scal E.pur ops) {p : Nat} {z : Oper} (hz : ops[p]? = some z) (h : kindD E.scal E.pur z = 3 ∨ tailB (ancM ops.toList []) p (ops.size - p) = true) : ∀ i j, i < j → p ≤ j → j < ops.size → Anc ops j i := by
  intro i j h1 h2 h3
  rcases h with h | h
  · exact hB.tail i j p z h1 h2 h3 hz h
  · exact tab_ancB (tail_spec _ _ h i j h1 h2 (by omega))

/-- The rest, where the order may no longer turn. -/
theorem seq_any (hE : EnvOK E P) (hok : CallOK P call) (hB : Lawful E.scal E.pur ops) {m p : Nat} (hT : ∀ i j, i < j → p ≤ j → j < ops.size → Anc ops j i) {Q : Exit → Act → World → Prop} :
    ∀ (rest : List Oper) (i : Nat) (t : List V) (F : Fo) (A : List (Option RI)) (a : Act) (w : World) (listed : Array Bool), p ≤ i → (∀ j, rest[j]? = ops[i + j]?) → rest.length + i = ops.size → listed.size = ops.size → (∀ j, Lp listed j ↔ j < i) →
      Closed ops listed → runOps E call ops.toList rest t F k = some r → m ≤ A.length → Roots w A F → Slots w A t a.tmps → a.defers = [] →
      (∀ t' F' A' a' w', k t' F' = some r → Roots w' A' F' → Slots w' A' t' a'.tmps → a'.defers = [] → Step A w w' → PG m A A' w → Q .normal a' w') →
      wpAny P .any ops Q rest.length listed a w
  | [], i, t, F, A, a, w, listed, hpi, hl, hn, hs, hL, hc, h, hm, hR, hS, hd, hQ => by
    have hQ' : Q .normal a w := hQ t F A a w (by rw [runOps] at h; exact h) hR hS hd (.refl _ _) (.refl hm _)
    refine ⟨?_, hQ'⟩
    refine List.eq_nil_iff_forall_not_mem.mpr fun j hj => ?_
    have := unlisted (mem_ready.1 hj).1
    have h1 : i = ops.size := by simpa using hn
    exact this.2 ((hL j).mpr (by rw [hs] at this; omega))
  | o :: rest, i, t, F, A, a, w, listed, hpi, hl, hn, hs, hL, hc, h, hm, hR, hS, hd, hQ => by
    have ho : ops[i]? = some o := by simpa using (hl 0).symm
    have hi : i < ops.size := by simp only [List.length_cons] at hn; omega
    have hl' : ∀ j, rest[j]? = ops[(i + 1) + j]? := fun j => by
      have := hl (j + 1)
      rw [List.getElem?_cons_succ] at this
      rw [this]; congr 1; omega
    have hri : i ∈ Region.ready .any ops listed := ready_of hB hs hi (fun hh => by have := (hL i).mp hh; omega) (fun j hj => (hL j).mpr hj)
    refine ⟨fun h0 => (by rw [h0] at hri; simp at hri), fun j hj => ?_⟩
    have hji : j = i := by
      have hu := unlisted (mem_ready.1 hj).1
      have h1 : i ≤ j := Nat.le_of_not_lt fun hlt => hu.2 ((hL j).mpr hlt)
      rcases Nat.lt_or_ge i j with h2 | h2
      · have := hc.ready hj (hT i j h2 (by omega) (by rw [hs] at hu; exact hu.1))
        have := (hL i).mp this
        omega
      · omega
    subst hji
    have hc' := hc.set hri
    have hL' : ∀ x, Lp (listed.setIfInBounds j true) x ↔ x < j + 1 := fun x => by rw [lp_set (by omega), hL]; omega
    simp only [runOps, putK_eq, spine_eq] at h
    unfold wpOp
    simp only [ho]
    rcases want_sound hS h with ⟨hw, h1⟩ | ⟨hw, h1⟩
    · simp only [hw, if_true]
      refine .inl (opAll_ok hE hok hR hS h1 _ _ (fun v u t' F' A' w' h2 hR' hS' hv hst hgr hgn => ?_))
      refine seq_any hE hok hB hT rest (j + 1) (put t' o.dst v) F' A' (a.put o.dst u) w' _ (by omega) hl' (by simp only [List.length_cons] at hn; omega) (by simp [hs]) hL' hc' h2 (Nat.le_trans hm hgr.len) hR' (hS'.put o.dst hv) (by rw [put_defers]; exact hd) ?_
      intro t2 F2 A2 a2 w2 g1 g3 g4 g5 g6 g7
      exact hQ t2 F2 A2 a2 w2 g1 g3 g4 g5 (hst.trans' g6 (fun b hb => hgr.own b hb)) ((PG.of hm hgr hgn).trans g7 hst.size)
    · simp only [hw, Bool.false_eq_true, if_false]
      exact seq_any hE hok hB hT rest (j + 1) (put t o.dst (.tup [])) F A (a.put o.dst undef) w _ (by omega) hl' (by simp only [List.length_cons] at hn; omega) (by simp [hs]) hL' hc' h1 hm hR (hS.put o.dst (skip_rel w A)) (by rw [put_defers]; exact hd) hQ

/-- A slice of no parts is made. -/
theorem empty_run {o : Oper} (hE : EnvOK E P) (h : emptyOK E o = true) {w : World} {A : List (Option RI)} {a : Act} : ∃ u w', (execOp a.eval o).run P w = .ok (.value u) w' ∧ RelV w' A .e0 u ∧ Below w.heap.size w w' := by
  unfold emptyOK at h
  split at h
  case h_2 => simp at h
  rename_i ty n ps ho
  split at h
  case h_2 => simp at h
  rename_i hps
  split at h
  case h_2 => simp at h
  rename_i i hi
  split at h
  case h_2 => simp at h
  rename_i e hd
  split at h
  case h_2 => simp at h
  rename_i j hj
  obtain ⟨_, _, h2, _⟩ := hE.ty _ _ hi
  rw [hd] at h2
  obtain ⟨tj, q1, q2, q3, q4, q5⟩ := hE.ty _ _ hj
  have hps0 : ps = #[] := by apply Array.ext'; simpa using hps
  subst hps0
  have hr0 : ∀ f : Nat → Value, Array.map f (Array.range 0) = #[] := fun f => Array.eq_empty_of_size_eq_zero (by simp)
  refine ⟨.slice (some ⟨w.heap.size, 0, none⟩) 0 0, { w with heap := w.heap.push (.cells #[] e (0, 0)) }, ?_, .e0 _, below_push w _⟩
  simp [execOp, ho, Instr.buildSlice, run_underlying h2, sizeOf, typeInfo, q1, q3, Instr.fill, newRow, hr0]

theorem any_sound (hE : EnvOK E P) (hok : CallOK P call) (hB : Lawful E.scal E.pur ops) {m p : Nat} (hF : ∀ j, j < p → Fact E call ops ts Fs W Ls Qs j) (hEnd : EndOf E call ops k r ts Fs p) (hq : ∀ i, i < p → m ≤ Qs i) {Q : Exit → Act → World → Prop} :
    ∀ (fuel : Nat) (listed : Array Bool) (tL : List V) (FL : Fo) (A : List (Option RI)) (a : Act) (w : World), listed.toList.countP (fun b => !b) = fuel → Part E ops ts Fs W Qs p listed tL FL →
      m ≤ A.length → Roots w A FL → Slots w A tL a.tmps → a.defers = [] →
      (∀ t' F' A' a' w', k t' F' = some r → Roots w' A' F' → Slots w' A' t' a'.tmps → a'.defers = [] → Step A w w' → PG m A A' w → Q .normal a' w') →
      wpAny P .any ops Q fuel listed a w := by
  have hpn : p ≤ ops.size := by
    rcases hEnd with ⟨h, _⟩ | ⟨rest, z, _, _, _, h, _⟩ <;> omega
  intro fuel
  induction fuel with
  | zero =>
    intro listed tL FL A a w hcnt hP hm hR hS hd hQ
    have hall : ∀ i, i < ops.size → Lp listed i := fun i hi => by
      have := List.countP_eq_zero.mp hcnt (listed[i]'(by rw [hP.size]; exact hi)) (by simp)
      unfold Lp
      have hs : i < listed.size := by rw [hP.size]; exact hi
      simp [hs] at this ⊢
      exact this
    have hp : p = ops.size := by
      rcases hEnd with ⟨h, _⟩ | ⟨rest, z, hz, _⟩
      · exact h
      · have := hP.lt p (hall p (Array.getElem?_eq_some_iff.1 hz).1); omega
    obtain ⟨e1, e2⟩ := hP.full hB hF (fun i hi => hall i (by omega))
    subst e1; subst e2
    refine ⟨List.eq_nil_iff_forall_not_mem.mpr fun j hj => ?_, ?_⟩
    · have := unlisted (mem_ready.1 hj).1
      exact this.2 (hall j (by rw [← hP.size]; exact this.1))
    · rcases hEnd with ⟨_, h⟩ | ⟨rest, z, hz, _⟩
      · exact hQ _ _ A a w h hR hS hd (.refl _ _) (.refl hm _)
      · have := (Array.getElem?_eq_some_iff.1 hz).1; omega
  | succ fuel ih =>
    intro listed tL FL A a w hcnt hP hm hR hS hd hQ
    by_cases hfull : ∀ i, i < p → Lp listed i
    · obtain ⟨e1, e2⟩ := hP.full hB hF hfull
      have hL : ∀ i, Lp listed i ↔ i < p := fun i => ⟨hP.lt i, hfull i⟩
      have hc := count_all p (by rw [hP.size]; exact hpn) hL
      rcases hEnd with ⟨h, _⟩ | ⟨rest, z, hz, hkz, h1, h2, h3⟩
      · rw [hcnt, hP.size] at hc; omega
      · have hfl : fuel + 1 = rest.length := by rw [hcnt, hP.size] at hc; omega
        rw [hfl]
        subst e1; subst e2
        exact seq_any hE hok hB (tail_of hB hz hkz) rest p (ts p) (Fs p) A a w listed (Nat.le_refl _) h1 h2 hP.size hL hP.closed h3 hm hR hS hd hQ
    · have hnone : Region.ready .any ops listed ≠ [] := fun h0 => hfull fun i hi => some_ready hB hP.size h0 i (by omega)
      refine ⟨fun h0 => absurd h0 hnone, fun i hi => ?_⟩
      have hip : i < p := by
        refine Nat.lt_of_not_le fun hpi => ?_
        have hu := unlisted (mem_ready.1 hi).1
        rcases hEnd with ⟨h, _⟩ | ⟨rest, z, hz, hkz, _⟩
        · rw [hP.size] at hu; omega
        · refine hfull fun j hj => ?_
          exact hP.closed.ready hi (tail_of hB hz hkz j i (by omega) hpi (by rw [hP.size] at hu; exact hu.1))
      obtain ⟨o, FN, ho, hP', hcase⟩ := hP.step hB hF hip hi
      have hcnt' : (listed.setIfInBounds i true).toList.countP (fun b => !b) = fuel := by
        have := count_set (mem_ready.1 hi).1
        omega
      unfold wpOp
      simp only [ho]
      rcases hcase with ⟨hw, hW, hFN⟩ | ⟨hw, hop⟩ | ⟨hw, hop, hFN⟩ | ⟨hw, hop⟩ | ⟨hw, hem, hW, hFN⟩
      · rcases want_sound (R := Bool) hS hw with ⟨_, h1⟩ | ⟨h1, _⟩
        · simp at h1
        · simp only [h1, Bool.false_eq_true, if_false]
          subst hFN
          rw [hW] at hP'
          exact ih _ _ _ A (a.put o.dst undef) w hcnt' hP' hm hR (hS.put o.dst (skip_rel w A)) (by rw [put_defers]; exact hd) hQ
      · rcases want_sound (R := Bool) hS hw with ⟨h1, _⟩ | ⟨_, h1⟩
        · simp only [h1, if_true]
          refine .inl (opAll_ok (R := V × List V × Fo) (r := (W i, tL, FN)) hE hok hR hS (hop fun v t F => some (v, t, F)) _ _ (fun v u t' F' A' w' h2 hR' hS' hv hst hgr hgn => ?_))
          simp only [Option.some.injEq, Prod.mk.injEq] at h2
          obtain ⟨rfl, rfl, rfl⟩ := h2
          refine ih _ _ _ A' (a.put o.dst u) w' hcnt' hP' (Nat.le_trans hm hgr.len) hR' (hS'.put o.dst hv) (by rw [put_defers]; exact hd) ?_
          intro t2 F2 A2 a2 w2 g1 g3 g4 g5 g6 g7
          exact hQ t2 F2 A2 a2 w2 g1 g3 g4 g5 (hst.trans' g6 (fun b hb => hgr.own b hb)) ((PG.of hm hgr hgn).trans g7 hst.size)
        · simp at h1
      · rcases want_sound (R := Bool) hS hw with ⟨h1, _⟩ | ⟨_, h1⟩
        · simp only [h1, if_true]
          subst hFN
          refine .inl (opD_ok hE hok hR hS hop (fun u w' hv hb => ?_))
          refine ih _ _ _ A (a.put o.dst u) w' hcnt' hP' hm (hR.below hb) ((hS.below hb).put o.dst hv) (by rw [put_defers]; exact hd) ?_
          intro t2 F2 A2 a2 w2 g1 g3 g4 g5 g6 g7
          exact hQ t2 F2 A2 a2 w2 g1 g3 g4 g5 ((Step.of_below hb).trans' g6 (fun b hb => .inl hb)) ((PG.refl hm w).trans g7 hb.size)
        · simp at h1
      · rcases want_sound (R := Bool) hS hw with ⟨h1, _⟩ | ⟨_, h1⟩
        · simp only [h1, if_true]
          obtain ⟨hAq, u, ri, w', hrun, hR', hS', hv, hst, hbk⟩ := opN_sound hE hR hS hop
          have hmq := hq i hip
          have hg : PG m A (A.set (Qs i) (some ri)) w := ⟨by simpa using hm, fun r x hr hx => .inl (set_get hAq r x hx), fun r hr hn => by rw [List.getElem?_set, if_neg (by omega)]; exact hn, fun b hb => (set_own hb).imp id (hbk b)⟩
          refine .inl ?_
          unfold Oper.wp
          rw [hrun]
          refine ih _ _ _ (A.set (Qs i) (some ri)) (a.put o.dst u) w' hcnt' hP' (by simpa using hm) hR' (hS'.put o.dst hv) (by rw [put_defers]; exact hd) ?_
          intro t2 F2 A2 a2 w2 g1 g3 g4 g5 g6 g7
          exact hQ t2 F2 A2 a2 w2 g1 g3 g4 g5 (hst.trans' g6 hg.own) (hg.trans g7 hst.size)
        · simp at h1
      · rcases want_sound (R := Bool) hS hw with ⟨h1, _⟩ | ⟨_, h1⟩
        · simp only [h1, if_true]
          subst hFN
          rw [hW] at hP'
          obtain ⟨u, w', hrun, hv, hb⟩ := empty_run hE hem (w := w) (A := A) (a := a)
          refine .inl ?_
          unfold Oper.wp
          rw [hrun]
          refine ih _ _ _ A (a.put o.dst u) w' hcnt' hP' hm (hR.below hb) ((hS.below hb).put o.dst hv) (by rw [put_defers]; exact hd) ?_
          intro t2 F2 A2 a2 w2 g1 g3 g4 g5 g6 g7
          exact hQ t2 F2 A2 a2 w2 g1 g3 g4 g5 ((Step.of_below hb).trans' g6 (fun b hb => .inl hb)) ((PG.refl hm w).trans g7 hb.size)
        · simp at h1

/-! ### Places kept -/
omit B in
omit DW in
theorem pad_get {A : List (Option RI)} {n r : Nat} {x : RI} : (A ++ List.replicate n none)[r]? = some (some x) ↔ A[r]? = some (some x) := by
  by_cases h : r < A.length
  · rw [List.getElem?_append_left h]
  · rw [List.getElem?_append_right (by omega), List.getElem?_replicate, List.getElem?_eq_none (by omega)]
    split <;> simp
omit B in
omit DW in
theorem pad_own {A : List (Option RI)} {n b : Nat} : Own (A ++ List.replicate n none) b ↔ Own A b :=
  ⟨fun ⟨r, x, h1, h2⟩ => ⟨r, x, pad_get.mp h1, h2⟩, fun ⟨r, x, h1, h2⟩ => ⟨r, x, pad_get.mpr h1, h2⟩⟩
omit DW in
theorem pad_free {A : List (Option RI)} {n b : Nat} (h : Free A b) : Free (A ++ List.replicate n none) b := ⟨fun ho => h.1 (pad_own.mp ho), h.2⟩
omit DW in
theorem Roots.pad {w : World} {A : List (Option RI)} {F : Fo} (h : Roots w A F) (n : Nat) : Roots w (A ++ List.replicate n none) (F ++ List.replicate n none) := by
  refine ⟨by simp [h.len], fun r s x y b hx hy => h.inj r s x y b (pad_get.mp hx) (pad_get.mp hy), fun r R hr => ?_, fun r hr => ?_, fun b ho => h.lt b (pad_own.mp ho), fun b ho => h.ok b (pad_own.mp ho), h.bad⟩
  · by_cases hlt : r < F.length
    · rw [List.getElem?_append_left hlt] at hr
      obtain ⟨x, g1, g2⟩ := h.rel r R hr
      exact ⟨x, pad_get.mpr g1, g2.mono (fun _ _ _ => rfl) (fun b hf _ => pad_free hf) (fun _ _ hx => pad_get.mpr hx) (fun _ _ => rfl)⟩
    · rw [List.getElem?_append_right (by omega), List.getElem?_replicate] at hr
      split at hr <;> simp at hr
  · by_cases hlt : r < F.length
    · rw [List.getElem?_append_left hlt] at hr
      rw [List.getElem?_append_left (by rw [h.len]; exact hlt)]
      exact h.gone r hr
    · rw [List.getElem?_append_right (by omega)] at hr
      rw [List.getElem?_append_right (by rw [h.len]; omega), h.len]
      rw [List.getElem?_replicate] at hr ⊢
      split at hr
      · rename_i e; rw [if_pos e]
      · simp at hr
omit DW in
theorem Slots.pad {w : World} {A : List (Option RI)} {t : List V} {tm : Array Value} (h : Slots w A t tm) (n : Nat) : Slots w (A ++ List.replicate n none) t tm :=
  h.mono (fun _ _ _ => rfl) (fun b hf _ => pad_free hf) (fun _ _ hx => pad_get.mpr hx)

theorem draw_sound (hE : EnvOK E P) (hok : CallOK P call) {m : Nat} (hB : drawOK E.scal E.pur ops = true) (t : List V) (F : Fo) (A : List (Option RI)) (a : Act) (w : World) (h : runOpsD E call ops.toList ops.toList t F k = some r)
    (hm : m ≤ A.length) (hR : Roots w A F) (hS : Slots w A t a.tmps) (hd : a.defers = []) {Q : Exit → Act → World → Prop}
    (hQ : ∀ t' F' A' a' w', k t' F' = some r → Roots w' A' F' → Slots w' A' t' a'.tmps → a'.defers = [] → Step A w w' → PG m A A' w → Q .normal a' w') :
    wpAny P .any ops Q ops.size (Array.replicate ops.size false) a w := by
  have hL := drawOK_lawful hB
  unfold runOpsD at h
  simp only [tabK_eq, forceN_eq] at h
  rw [spine_eq] at h
  generalize hn : newN E.scal E.pur ops.toList ops.toList = n at h
  obtain ⟨p, ts, Fs, W, Ls, Qs, _, h2, h3, _, hQs, h4, h5⟩ := trace ops.toList 0 F.length t (F ++ List.replicate n none) [] (fun j => by simp) (by simp) h
  have hno : ∀ i, ¬ Lp (Array.replicate ops.size false) i := fun i => by
    unfold Lp
    by_cases hi : i < ops.size <;> simp [hi]
  have hF : ∀ j, j < p → Fact E call ops ts Fs W Ls Qs j := fun j hj => h4 j (by omega) hj
  refine any_sound hE hok hL hF h5 (fun i hi => ?_) ops.size _ t (F ++ List.replicate n none) (A ++ List.replicate n none) a w (by rw [Array.toList_replicate, List.countP_replicate]; simp) ⟨by simp, fun i hi => absurd hi (hno i), fun j y e _ hl => absurd hl (hno j), ?_, ⟨0, by omega, by rw [h3], fun i o _ _ _ => ⟨fun hi => absurd hi (hno i), fun hi => by omega⟩⟩, fun r => ⟨0, by omega, by rw [h3], fun i _ _ => ⟨fun hi => absurd hi (hno i), fun hi => by omega⟩⟩⟩ (Nat.le_trans hm (by simp)) (hR.pad n) (hS.pad n) hd ?_
  · have := q_le hF 0 i (by omega) (by omega)
    rw [hQs, ← hR.len] at this
    omega
  · exact ⟨by rw [h2], fun s c hs => .inr ⟨fun i o _ _ hl => hno i hl, by rw [h2]; exact hs⟩⟩
  · intro t' F' A' a' w' g1 g2 g3 g4 g5 g6
    refine hQ t' F' A' a' w' g1 g2 g3 g4 ⟨g5.drawn, g5.os, g5.tape, g5.output, g5.size, fun b hb hf => g5.block b hb fun ho => hf (pad_own.mp ho)⟩ ⟨g6.len, fun r x hr hx => g6.old r x hr (pad_get.mpr hx), fun r hr hx => g6.gone r hr ?_, fun b hb => (g6.own b hb).imp pad_own.mp id⟩
    rw [List.getElem?_append_left (by omega)]; exact hx

end
end Go.Proofs.YtjnhclnnobejgaaE

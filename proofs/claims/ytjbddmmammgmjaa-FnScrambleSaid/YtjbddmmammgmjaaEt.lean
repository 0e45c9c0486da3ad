/- The engine, between: whatever order a region draws, it comes to what the order written comes to; conditions: none. -/
import Derived.Test.YtjbddmmammgmjaaEx
namespace Go.Proofs.YtjbddmmammgmjaaE
open Go.RowKit
set_option linter.unusedVariables false
set_option linter.unusedSimpArgs false

section
variable {R : Type} {E : Env} {call : Ca} {r : R} {ops : Array Oper} {k : List V → Fo → Option R} {ts : Nat → List V} {Fs : Nat → Fo} {W : Nat → V} {Ls : Nat → Log}

/-- What is listed waits for nothing that isn't. -/
def Closed (ops : Array Oper) (listed : Array Bool) : Prop := ∀ (j : Nat) (y : Oper) (e : Edge), ops[j]? = some y → Lp listed j → e ∈ y.after → Region.binds .any e = true → Lp listed e.on

theorem Closed.anc {listed : Array Bool} (h : Closed ops listed) {j i : Nat} (ha : Anc ops j i) : Lp listed j → Lp listed i := by
  induction ha with
  | base j y e h1 h2 h3 => exact fun hl => h j y e h1 hl h2 h3
  | step j i y e h1 h2 h3 h4 ih => exact fun hl => ih (h j y e h1 hl h2 h3)

theorem Closed.ready {listed : Array Bool} (h : Closed ops listed) {j i : Nat} (hr : j ∈ Region.ready .any ops listed) (ha : Anc ops j i) : Lp listed i := by
  obtain ⟨_, o, ho, hall⟩ := mem_ready.1 hr
  cases ha with
  | base _ y e h1 h2 h3 =>
    rw [ho] at h1; injection h1 with h1; subst h1
    exact hall e h2 h3
  | step _ _ y e h1 h2 h3 h4 =>
    rw [ho] at h1; injection h1 with h1; subst h1
    exact h.anc h4 (hall e h2 h3)

theorem lp_set {listed : Array Bool} {i : Nat} (hi : i < listed.size) (j : Nat) : Lp (listed.setIfInBounds i true) j ↔ Lp listed j ∨ j = i := by
  unfold Lp
  by_cases h : i = j
  · subst h; simp [hi]
  · rw [getD_set_ne false h]
    constructor
    · exact .inl
    · rintro (h1 | h1)
      · exact h1
      · exact absurd h1.symm h

theorem unlisted {listed : Array Bool} {i : Nat} (h : listed.getD i true = false) : i < listed.size ∧ ¬ Lp listed i := by
  unfold Lp
  rcases Nat.lt_or_ge i listed.size with h' | h'
  · refine ⟨h', ?_⟩
    simp [h'] at h ⊢
    exact h
  · simp [Array.getElem?_eq_none h'] at h

theorem ready_of {listed : Array Bool} (hB : Lawful E.scal E.pur ops) (hs : listed.size = ops.size) {i : Nat} (hi : i < ops.size) (hu : ¬ Lp listed i) (hlt : ∀ j, j < i → Lp listed j) : i ∈ Region.ready .any ops listed := by
  refine mem_ready.2 ⟨?_, ops[i], by simp [hi], fun e he hb => ?_⟩
  · unfold Lp at hu
    simp [hs, hi] at hu ⊢
    exact hu
  · exact hlt _ (hB.back i ops[i] e (by simp [hi]) he hb)

theorem some_ready {listed : Array Bool} (hB : Lawful E.scal E.pur ops) (hs : listed.size = ops.size) (h : Region.ready .any ops listed = []) : ∀ i, i < ops.size → Lp listed i := by
  intro i
  induction i using Nat.strongRecOn with
  | ind i ih =>
    intro hi
    refine Classical.byContradiction fun hu => ?_
    have := ready_of hB hs hi hu (fun j hj => ih j hj (by omega))
    rw [h] at this
    simp at this

theorem Closed.set {listed : Array Bool} (h : Closed ops listed) {i : Nat} (hr : i ∈ Region.ready .any ops listed) : Closed ops (listed.setIfInBounds i true) := by
  obtain ⟨hu, o, ho, hall⟩ := mem_ready.1 hr
  have hi := (unlisted hu).1
  intro j y e hy hl he hb
  rw [lp_set hi] at hl ⊢
  rcases hl with hl | hl
  · exact .inl (h j y e hy hl he hb)
  · subst hl
    rw [ho] at hy; injection hy with hy; subst hy
    exact .inl (hall e he hb)

theorem looks_same {listed : Array Bool} (hB : Lawful E.scal E.pur ops) (hc : Closed ops listed) {i : Nat} {o : Oper} (ho : ops[i]? = some o) (hr : i ∈ Region.ready .any ops listed) :
    ∀ s ∈ o.looksAt ops, ∀ j y, ops[j]? = some y → y.dst = some s → (Lp listed j ↔ j < i) := by
  intro s hs j y hy hd
  obtain ⟨hu, o', ho', hall⟩ := mem_ready.1 hr
  rw [ho] at ho'; injection ho' with ho'; subst ho'
  have hnu := (unlisted hu).2
  rcases Nat.lt_trichotomy j i with h | h | h
  · refine ⟨fun _ => h, fun _ => ?_⟩
    rcases hB.pair j i y o h hy ho with ⟨e, h1, h2, h3⟩ | hap
    · rw [← h3]; exact hall e h1 h2
    · exact absurd hs ((Oper.apart_spec hap).1 s hd)
  · subst h; exact ⟨fun h => absurd h hnu, fun h => by omega⟩
  · refine ⟨fun hl => ?_, fun hlt => by omega⟩
    rcases hB.pair i j o y h ho hy with ⟨e, h1, h2, h3⟩ | hap
    · exact absurd (by rw [← h3]; exact hc j y e hy hl h1 h2) hnu
    · exact absurd hs ((Oper.apart_spec hap).2.2 s hd)

theorem ts_mix {p : Nat} (hF : ∀ j, j < p → Fact E call ops ts Fs W Ls j) : ∀ i, i ≤ p → Mix ops (ts 0) W (fun j => j < i) (ts i)
  | 0, _ => ⟨rfl, fun s c hs => .inr ⟨fun i o _ _ h => by omega, hs⟩⟩
  | i + 1, hi => by
    obtain ⟨o, ho, h1, _⟩ := hF i (by omega)
    rw [h1]
    exact ((ts_mix hF i (by omega)).put ho).iff fun j => by omega

theorem fs_same {p : Nat} (hF : ∀ j, j < p → Fact E call ops ts Fs W Ls j) {b : Nat} : ∀ b', b ≤ b' → b' ≤ p → (∀ m o, b ≤ m → m < b' → ops[m]? = some o → kindD E.scal E.pur o ≠ 2) → Fs b = Fs b'
  | 0, h, _, _ => by rw [show b = 0 by omega]
  | b' + 1, h, hp, hn => by
    by_cases hb : b = b' + 1
    · rw [hb]
    · rw [fs_same hF b' (by omega) (by omega) (fun m o h1 h2 h3 => hn m o h1 (by omega) h3)]
      obtain ⟨o, ho, _, _, h4⟩ := hF b' (by omega)
      rcases h4 with ⟨_, _, h4, _⟩ | ⟨_, h4, _⟩ | ⟨_, _, _, h4, _⟩
      · exact h4.symm
      · exact absurd h4 (hn b' o (by omega) (by omega) ho)
      · exact h4.symm

theorem fs_eq {p b i : Nat} (hF : ∀ j, j < p → Fact E call ops ts Fs W Ls j) (hb : b ≤ p) (hi : i ≤ p) (h1 : ∀ m o, b ≤ m → m < i → ops[m]? = some o → kindD E.scal E.pur o ≠ 2) (h2 : ∀ m o, i ≤ m → m < b → ops[m]? = some o → kindD E.scal E.pur o ≠ 2) : Fs b = Fs i := by
  by_cases h : b ≤ i
  · exact fs_same hF i h hi h1
  · exact (fs_same hF b (by omega) hb h2).symm

/-! ### Roots at which an operation looks -/
theorem disj_spec : ∀ {L M : List Nat}, disjN L M = true → ∀ r ∈ L, r ∉ M
  | [], M, h, r, hr => by simp at hr
  | s :: L, M, h, r, hr => by
    simp only [disjN] at h
    split at h
    · simp at h
    · rename_i hs
      rcases List.mem_cons.mp hr with rfl | hr
      · intro hm; rw [memN_iff.mpr hm] at hs; cases hs
      · exact disj_spec h r hr
theorem lt_spec {n : Nat} : ∀ {L : List Nat}, allLt n L = true → ∀ r ∈ L, r < n
  | [], h, r, hr => by simp at hr
  | s :: L, h, r, hr => by
    simp only [allLt] at h
    split at h
    · rename_i hs
      rcases List.mem_cons.mp hr with rfl | hr
      · simpa [Nat.blt_eq] using hs
      · exact lt_spec h r hr
    · simp at h
theorem entOK_mem {tab : List (List Nat)} {j : Nat} {chg : Bool} {L : List Nat} {e : Nat × Bool × List Nat × Nat} : ∀ {log : Log}, entOK tab j chg L log = true → e ∈ log → entOne tab j chg L e.1 e.2.1 e.2.2.1 e.2.2.2 = true
  | x :: log, h, he => by
    simp only [entOK] at h
    split at h
    · rename_i h1
      rcases List.mem_cons.mp he with rfl | he
      · exact h1
      · exact entOK_mem h he
    · simp at h
theorem log_keep {p : Nat} (hF : ∀ j, j < p → Fact E call ops ts Fs W Ls j) {e : Nat × Bool × List Nat × Nat} : ∀ (i j : Nat), i ≤ j → j ≤ p → e ∈ Ls i → e ∈ Ls j := by
  intro i j h
  induction h with
  | refl => intro _ h; exact h
  | step h ih =>
    rename_i m
    intro hp he
    have := ih (by omega) he
    obtain ⟨o, ho, _, _, h4⟩ := hF m (by omega)
    rcases h4 with ⟨_, _, _, h4⟩ | ⟨_, _, _, _, h4⟩ | ⟨_, _, _, _, ⟨_, h4⟩ | ⟨_, _, _, h4⟩⟩
    all_goals (first | (rw [show Ls (m + 1) = Ls m from h4]; exact this) | (show e ∈ Ls (m + 1); rw [h4]; exact List.mem_cons_of_mem _ this))
theorem len_le {p : Nat} (hF : ∀ j, j < p → Fact E call ops ts Fs W Ls j) : ∀ (i j : Nat), i ≤ j → j ≤ p → (Fs i).length ≤ (Fs j).length := by
  intro i j h
  induction h with
  | refl => intro _; exact Nat.le_refl _
  | step h ih =>
    rename_i m
    intro hp
    refine Nat.le_trans (ih (by omega)) ?_
    obtain ⟨o, ho, _, _, h4⟩ := hF m (by omega)
    rcases h4 with ⟨_, _, h4, _⟩ | ⟨_, _, h4, _, _⟩ | ⟨_, _, _, h4, _⟩
    · rw [show Fs (m + 1) = Fs m from h4]; exact Nat.le_refl _
    · exact opX_len h4
    · rw [show Fs (m + 1) = Fs m from h4]; exact Nat.le_refl _
/-- What is seen at one place is seen at another, if nothing between turns it. -/
theorem seen_same {p : Nat} (hF : ∀ j, j < p → Fact E call ops ts Fs W Ls j) {i : Nat} {o : Oper} (hi : i < p) (ho : ops[i]? = some o) (hk : kindD E.scal E.pur o = 1) (hrun : wantB ops.toList (ts i) o = some true) {b : Nat} (hb : b ≤ p)
    (h1 : ∀ m y, b ≤ m → m < i → ops[m]? = some y → kindD E.scal E.pur y = 2 → ¬ Anc ops i m) (h2 : ∀ m y, i ≤ m → m < b → ops[m]? = some y → kindD E.scal E.pur y = 2 → ¬ Anc ops m i) :
    ∀ r ∈ looks (ts i) (Fs i) o, root (Fs b) r = root (Fs i) r := by
  intro r hr
  obtain ⟨o', ho', _, _, h4⟩ := hF i hi
  rw [ho] at ho'; injection ho' with ho'; subst ho'
  have hin : allLt (Fs i).length (looks (ts i) (Fs i) o) = true ∧ entOK (ancTab ops.toList []) i false (looks (ts i) (Fs i) o) (Ls i) = true ∧ Ls (i + 1) = (i, false, looks (ts i) (Fs i) o, 0) :: Ls i := by
    rcases h4 with ⟨h4, _⟩ | ⟨_, h4, _⟩ | ⟨_, _, _, _, ⟨h4, _⟩ | ⟨_, h4⟩⟩
    · rw [hrun] at h4; cases h4
    · rw [hk] at h4; cases h4
    · rw [hk] at h4; cases h4
    · exact h4
  obtain ⟨hlt, hent, hlog⟩ := hin
  have hri := lt_spec hlt r hr
  -- a step ahead of i
  have before : ∀ m, b ≤ m → m < i → root (Fs m) r = root (Fs (m + 1)) r ∧ (r < (Fs (m + 1)).length → r < (Fs m).length) := by
    intro m hbm hmi
    obtain ⟨y, hy, _, _, h5⟩ := hF m (by omega)
    rcases h5 with ⟨_, _, h5, _⟩ | ⟨_, g2, g3, g4, g5⟩ | ⟨_, _, _, h5, _⟩
    · rw [h5]; exact ⟨rfl, id⟩
    · have hmem : (m, true, chgs E (ts m) (Fs m) y, (Fs m).length) ∈ Ls i := log_keep hF (m + 1) i (by omega) (by omega) (by rw [g5]; exact List.mem_cons_self)
      have hone := entOK_mem hent hmem
      simp only [entOne] at hone
      have hna := h1 m y hbm hmi hy g2
      split at hone
      · rename_i hd
        split at hone
        · rename_i hl
          have hrm := lt_spec hl r hr
          exact ⟨(opX_frame g3 hrm (disj_spec hd r hr)).symm, fun _ => hrm⟩
        · exact absurd (tab_anc hone) hna
      · exact absurd (tab_anc hone) hna
    · rw [h5]; exact ⟨rfl, id⟩
  have after : ∀ m, i ≤ m → m < b → root (Fs (m + 1)) r = root (Fs m) r := by
    intro m him hmb
    obtain ⟨y, hy, _, _, h5⟩ := hF m (by omega)
    rcases h5 with ⟨_, _, h5, _⟩ | ⟨_, g2, g3, g4, g5⟩ | ⟨_, _, _, h5, _⟩
    · rw [h5]
    · have hne : i ≠ m := fun e => by subst e; rw [ho] at hy; injection hy with hy; subst hy; rw [hk] at g2; cases g2
      have hmem : (i, false, looks (ts i) (Fs i) o, 0) ∈ Ls m := log_keep hF (i + 1) m (by omega) (by omega) (by rw [hlog]; exact List.mem_cons_self)
      have hone := entOK_mem g4 hmem
      simp only [entOne] at hone
      have hna := h2 m y him hmb hy g2
      split at hone
      · rename_i hd
        exact opX_frame g3 (Nat.lt_of_lt_of_le hri (len_le hF i m him (by omega))) (disj_spec hd r hr)
      · exact absurd (tab_anc hone) hna
    · rw [h5]
  rcases Nat.le_total b i with hbi | hbi
  · have : ∀ n, n ≤ i - b → root (Fs (i - n)) r = root (Fs i) r := by
      intro n
      induction n with
      | zero => intro _; rfl
      | succ n ih =>
        intro hn
        have h3 := before (i - (n + 1)) (by omega) (by omega)
        rw [show i - (n + 1) + 1 = i - n by omega] at h3
        rw [h3.1]; exact ih (by omega)
    have := this (i - b) (Nat.le_refl _)
    rwa [show i - (i - b) = b by omega] at this
  · have : ∀ n, i + n ≤ b → root (Fs (i + n)) r = root (Fs i) r := by
      intro n
      induction n with
      | zero => intro _; rfl
      | succ n ih =>
        intro hn
        rw [show i + (n + 1) = (i + n) + 1 by omega, after (i + n) (by omega) (by omega)]; exact ih (by omega)
    have := this (b - i) (by omega)
    rwa [show i + (b - i) = b by omega] at this

/-- The state when some of the operations have been. -/
structure Part (E : Env) (ops : Array Oper) (ts : Nat → List V) (Fs : Nat → Fo) (W : Nat → V) (p : Nat) (listed : Array Bool) (tL : List V) (FL : Fo) : Prop where
  size : listed.size = ops.size
  lt : ∀ i, Lp listed i → i < p
  closed : Closed ops listed
  mix : Mix ops (ts 0) W (Lp listed) tL
  roots : ∃ b, b ≤ p ∧ FL = Fs b ∧ ∀ i o, i < p → ops[i]? = some o → kindD E.scal E.pur o = 2 → (Lp listed i ↔ i < b)

theorem Part.full {p : Nat} {listed : Array Bool} {tL : List V} {FL : Fo} (hB : Lawful E.scal E.pur ops) (hF : ∀ j, j < p → Fact E call ops ts Fs W Ls j) (h : Part E ops ts Fs W p listed tL FL) (hall : ∀ i, i < p → Lp listed i) : tL = ts p ∧ FL = Fs p := by
  refine ⟨?_, ?_⟩
  · refine List.ext_getElem? fun s => ?_
    exact h.mix.agree hB.dst (ts_mix hF p (Nat.le_refl _)) s fun j y _ _ => ⟨fun hj => h.lt j hj, fun hj => hall j hj⟩
  · obtain ⟨b, hb, h1, h2⟩ := h.roots
    rw [h1]
    exact fs_eq hF hb (Nat.le_refl _) (fun m o g1 g2 g3 g4 => by
      have := (h2 m o g2 g3 g4).mp (hall m g2)
      omega) (fun m o g1 g2 g3 => by omega)

/-- One operation, whichever it is, at the plain data. -/
theorem Part.step {p : Nat} {listed : Array Bool} {tL : List V} {FL : Fo} (hB : Lawful E.scal E.pur ops) (hF : ∀ j, j < p → Fact E call ops ts Fs W Ls j) (h : Part E ops ts Fs W p listed tL FL) {i : Nat} (hi : i < p)
    (hr : i ∈ Region.ready .any ops listed) : ∃ o FN, ops[i]? = some o ∧ Part E ops ts Fs W p (listed.setIfInBounds i true) (put tL o.dst (W i)) FN ∧
      ((wantB ops.toList tL o = some false ∧ W i = .tup [] ∧ FN = FL) ∨
       (wantB ops.toList tL o = some true ∧ ∀ {Q : Type} (k : V → List V → Fo → Option Q), opAll E call o tL FL k = k (W i) tL FN) ∨
       (wantB ops.toList tL o = some true ∧ opD E call o tL FL some = some (W i) ∧ FN = FL)) := by
  obtain ⟨o, ho, h1, h3, h4⟩ := hF i hi
  have hu := unlisted (mem_ready.1 hr).1
  have hin : i < listed.size := hu.1
  have hsame : ∀ s ∈ o.looksAt ops, tL[s]? = (ts i)[s]? := fun s hs => h.mix.agree hB.dst (ts_mix hF i (by omega)) s fun j y hy hd => looks_same hB h.closed ho hr s hs j y hy hd
  have hv := look_val hsame
  have hw := look_want hsame
  obtain ⟨b, hb, hFb, hbi⟩ := h.roots
  have hmix : Mix ops (ts 0) W (Lp (listed.setIfInBounds i true)) (put tL o.dst (W i)) := (h.mix.put ho).iff fun j => (lp_set hin j).symm
  have hlt : ∀ j, Lp (listed.setIfInBounds i true) j → j < p := fun j hj => by
    rcases (lp_set hin j).mp hj with h1 | h1
    · exact h.lt j h1
    · omega
  have keep : kindD E.scal E.pur o ≠ 2 → Part E ops ts Fs W p (listed.setIfInBounds i true) (put tL o.dst (W i)) FL := fun hk =>
    ⟨by simp [h.size], hlt, h.closed.set hr, hmix, b, hb, hFb, fun j y hj hy hk2 => by
      rw [lp_set hin, ← hbi j y hj hy hk2]
      constructor
      · rintro (h1 | h1)
        · exact h1
        · subst h1; rw [ho] at hy; injection hy with hy; subst hy; exact absurd hk2 hk
      · exact .inl⟩
  have at2 : kindD E.scal E.pur o = 2 → FL = Fs i ∧ Part E ops ts Fs W p (listed.setIfInBounds i true) (put tL o.dst (W i)) (Fs (i + 1)) := by
    intro hk
    have hbl : ¬ i < b := fun hlt => hu.2 ((hbi i o hi ho hk).mpr hlt)
    refine ⟨?_, by simp [h.size], hlt, h.closed.set hr, hmix, i + 1, by omega, rfl, fun j y hj hy hk2 => ?_⟩
    · rw [hFb]
      exact fs_eq hF hb (by omega) (fun m y g1 g2 g3 g4 => by
        have := (hbi m y (by omega) g3 g4).mp (h.closed.ready hr (hB.two m i y o g2 g3 ho g4 hk))
        omega) (fun m y g1 g2 g3 => by omega)
    · rw [lp_set hin]
      rcases Nat.lt_trichotomy j i with hji | hji | hji
      · exact ⟨fun _ => by omega, fun _ => .inl (h.closed.ready hr (hB.two j i y o hji hy ho hk2 hk))⟩
      · subst hji; exact ⟨fun _ => by omega, fun _ => .inr rfl⟩
      · refine ⟨fun hl => ?_, fun hl => by omega⟩
        rcases hl with hl | hl
        · exact absurd (h.closed.anc (hB.two i j o y hji ho hy hk hk2) hl) hu.2
        · omega
  rcases h4 with ⟨g1, g2, g3, _⟩ | ⟨g1, g2, g3, _⟩ | ⟨g1, g2, g3, g4, _⟩
  · by_cases hk : kindD E.scal E.pur o = 2
    · obtain ⟨e1, e2⟩ := at2 hk
      exact ⟨o, Fs (i + 1), ho, e2, .inl ⟨by rw [hw]; exact g1, g2, by rw [g3, e1]⟩⟩
    · exact ⟨o, FL, ho, keep hk, .inl ⟨by rw [hw]; exact g1, g2, rfl⟩⟩
  · obtain ⟨e1, e2⟩ := at2 g2
    refine ⟨o, Fs (i + 1), ho, e2, .inr (.inl ⟨by rw [hw]; exact g1, fun k => opX_all ?_ k⟩)⟩
    rw [opX_congr hv, e1]
    exact g3
  · refine ⟨o, FL, ho, keep g2, .inr (.inr ⟨by rw [hw]; exact g1, ?_, rfl⟩)⟩
    rw [opD_congr hv]
    by_cases hk : kindD E.scal E.pur o = 0
    · rw [opD_noF (F' := Fs i) hk]; exact g3
    · have hk1 : kindD E.scal E.pur o = 1 := by
        have := kindD_le E.scal E.pur o
        omega
      have hsee := seen_same hF hi ho hk1 g1 hb (fun m y e1 e2 e3 e4 ha => by
          have := (hbi m y (by omega) e3 e4).mp (h.closed.ready hr ha)
          omega) (fun m y e1 e2 e3 e4 ha => by
          have hl := (hbi m y (by omega) e3 e4).mpr e2
          exact hu.2 (h.closed.anc ha hl))
      rw [← g3, hFb]
      exact (opD_frame (F := Fs i) (F' := Fs b) fun r hr => (hsee r hr).symm).symm

theorem count_set {listed : Array Bool} {i : Nat} (h : listed.getD i true = false) : (listed.setIfInBounds i true).toList.countP (fun b => !b) + 1 = listed.toList.countP (fun b => !b) := by
  have hi := (unlisted h).1
  have hf : listed[i] = false := by simp [hi] at h; exact h
  rw [Array.toList_setIfInBounds, List.countP_set (by simpa using hi)]
  have hpos : 0 < listed.toList.countP (fun b => !b) := by
    rw [List.countP_pos_iff]
    exact ⟨listed[i], by simp, by simp [hf]⟩
  rw [if_pos (by simp [hf]), if_neg (by simp)]
  omega

theorem count_all {listed : Array Bool} (p : Nat) (hp : p ≤ listed.size) (h : ∀ i, Lp listed i ↔ i < p) : listed.toList.countP (fun b => !b) + p = listed.size := by
  have : listed.toList = List.replicate p true ++ List.replicate (listed.size - p) false := by
    refine List.ext_getElem? fun i => ?_
    have hi := h i
    unfold Lp at hi
    rw [Array.getElem?_toList]
    by_cases h1 : i < p
    · rw [List.getElem?_append_left (by simpa using h1), List.getElem?_replicate, if_pos h1]
      have := hi.mpr h1
      have hs : i < listed.size := by omega
      simp [hs] at this ⊢
      exact this
    · rw [List.getElem?_append_right (by simp; omega), List.getElem?_replicate]
      simp only [List.length_replicate]
      by_cases hs : i < listed.size
      · rw [if_pos (by omega)]
        have : ¬ listed.getD i false = true := fun hh => h1 (hi.mp hh)
        simp [hs] at this ⊢
        exact this
      · rw [if_neg (by omega), Array.getElem?_eq_none (by omega)]
  rw [this, List.countP_append, List.countP_eq_zero.mpr (fun b hb => by rw [List.eq_of_mem_replicate hb]; simp), List.countP_replicate]
  simp
  omega

end

section
variable [B : Bad]
variable {R : Type} {E : Env} {P : Program} {call : Ca} {r : R} {ops : Array Oper} {k : List V → Fo → Option R} {ts : Nat → List V} {Fs : Nat → Fo} {W : Nat → V} {Ls : Nat → Log}

/-- The rest, where the order may no longer turn. -/
theorem seq_any (hE : EnvOK E P) (hok : CallOK P call) (hB : Lawful E.scal E.pur ops) {m p : Nat} {z : Oper} (hz : ops[p]? = some z) (hkz : kindD E.scal E.pur z = 3) {Q : Exit → Act → World → Prop} :
    ∀ (rest : List Oper) (i : Nat) (t : List V) (F : Fo) (A : List (Option RI)) (a : Act) (w : World) (listed : Array Bool), p ≤ i → (∀ j, rest[j]? = ops[i + j]?) → rest.length + i = ops.size → listed.size = ops.size → (∀ j, Lp listed j ↔ j < i) →
      Closed ops listed → runOps E call ops.toList rest t F k = some r → m ≤ A.length → Roots w A F → Slots w A t a.tmps → a.defers = [] →
      (∀ t' F' A' a' w', k t' F' = some r → Roots w' A' F' → Slots w' A' t' a'.tmps → a'.defers = [] → Step A w w' → PG m A A' w → Q .normal a' w') →
      wpAny P .any ops Q rest.length listed a w
  | [], i, t, F, A, a, w, listed, hpi, hl, hn, hs, hL, hc, h, hm, hR, hS, hd, hQ => by
    have hQ' : Q .normal a w := hQ t F A a w (by rw [runOps] at h; exact h) hR hS hd (.refl _ _) (.refl hm _)
    refine ⟨?_, hQ'⟩
    refine List.eq_nil_iff_forall_not_mem.mpr fun j hj => ?_
    have := unlisted (mem_ready.1 hj).1
    have h1 : i = ops.size := by simpa using hn
    exact this.2 ((hL j).mpr (by rw [hs] at this; omega))
  | o :: rest, i, t, F, A, a, w, listed, hpi, hl, hn, hs, hL, hc, h, hm, hR, hS, hd, hQ => by
    have ho : ops[i]? = some o := by simpa using (hl 0).symm
    have hi : i < ops.size := by simp only [List.length_cons] at hn; omega
    have hl' : ∀ j, rest[j]? = ops[(i + 1) + j]? := fun j => by
      have := hl (j + 1)
      rw [List.getElem?_cons_succ] at this
      rw [this]; congr 1; omega
    have hri : i ∈ Region.ready .any ops listed := ready_of hB hs hi (fun hh => by have := (hL i).mp hh; omega) (fun j hj => (hL j).mpr hj)
    refine ⟨fun h0 => (by rw [h0] at hri; simp at hri), fun j hj => ?_⟩
    have hji : j = i := by
      have hu := unlisted (mem_ready.1 hj).1
      have h1 : i ≤ j := Nat.le_of_not_lt fun hlt => hu.2 ((hL j).mpr hlt)
      rcases Nat.lt_or_ge i j with h2 | h2
      · have := hc.ready hj (hB.tail i j p z h2 (by omega) (by rw [hs] at hu; exact hu.1) hz hkz)
        have := (hL i).mp this
        omega
      · omega
    subst hji
    have hc' := hc.set hri
    have hL' : ∀ x, Lp (listed.setIfInBounds j true) x ↔ x < j + 1 := fun x => by rw [lp_set (by omega), hL]; omega
    simp only [runOps, putK_eq, spine_eq] at h
    unfold wpOp
    simp only [ho]
    rcases want_sound hS h with ⟨hw, h1⟩ | ⟨hw, h1⟩
    · simp only [hw, if_true]
      refine .inl (opAll_ok hE hok hR hS h1 _ _ (fun v u t' F' A' w' h2 hR' hS' hv hst hgr hgn => ?_))
      refine seq_any hE hok hB hz hkz rest (j + 1) (put t' o.dst v) F' A' (a.put o.dst u) w' _ (by omega) hl' (by simp only [List.length_cons] at hn; omega) (by simp [hs]) hL' hc' h2 (Nat.le_trans hm hgr.len) hR' (hS'.put o.dst hv) (by rw [put_defers]; exact hd) ?_
      intro t2 F2 A2 a2 w2 g1 g3 g4 g5 g6 g7
      exact hQ t2 F2 A2 a2 w2 g1 g3 g4 g5 (hst.trans' g6 (fun b hb => hgr.own b hb)) ((PG.of hm hgr hgn).trans g7 hst.size)
    · simp only [hw, Bool.false_eq_true, if_false]
      exact seq_any hE hok hB hz hkz rest (j + 1) (put t o.dst (.tup [])) F A (a.put o.dst undef) w _ (by omega) hl' (by simp only [List.length_cons] at hn; omega) (by simp [hs]) hL' hc' h1 hm hR (hS.put o.dst (skip_rel w A)) (by rw [put_defers]; exact hd) hQ

theorem any_sound (hE : EnvOK E P) (hok : CallOK P call) (hB : Lawful E.scal E.pur ops) {m p : Nat} (hF : ∀ j, j < p → Fact E call ops ts Fs W Ls j) (hEnd : EndOf E call ops k r ts Fs p) {Q : Exit → Act → World → Prop} :
    ∀ (fuel : Nat) (listed : Array Bool) (tL : List V) (FL : Fo) (A : List (Option RI)) (a : Act) (w : World), listed.toList.countP (fun b => !b) = fuel → Part E ops ts Fs W p listed tL FL →
      m ≤ A.length → Roots w A FL → Slots w A tL a.tmps → a.defers = [] →
      (∀ t' F' A' a' w', k t' F' = some r → Roots w' A' F' → Slots w' A' t' a'.tmps → a'.defers = [] → Step A w w' → PG m A A' w → Q .normal a' w') →
      wpAny P .any ops Q fuel listed a w := by
  have hpn : p ≤ ops.size := by
    rcases hEnd with ⟨h, _⟩ | ⟨rest, z, _, _, _, h, _⟩ <;> omega
  intro fuel
  induction fuel with
  | zero =>
    intro listed tL FL A a w hcnt hP hm hR hS hd hQ
    have hall : ∀ i, i < ops.size → Lp listed i := fun i hi => by
      have := List.countP_eq_zero.mp hcnt (listed[i]'(by rw [hP.size]; exact hi)) (by simp)
      unfold Lp
      have hs : i < listed.size := by rw [hP.size]; exact hi
      simp [hs] at this ⊢
      exact this
    have hp : p = ops.size := by
      rcases hEnd with ⟨h, _⟩ | ⟨rest, z, hz, _⟩
      · exact h
      · have := hP.lt p (hall p (Array.getElem?_eq_some_iff.1 hz).1); omega
    obtain ⟨e1, e2⟩ := hP.full hB hF (fun i hi => hall i (by omega))
    subst e1; subst e2
    refine ⟨List.eq_nil_iff_forall_not_mem.mpr fun j hj => ?_, ?_⟩
    · have := unlisted (mem_ready.1 hj).1
      exact this.2 (hall j (by rw [← hP.size]; exact this.1))
    · rcases hEnd with ⟨_, h⟩ | ⟨rest, z, hz, _⟩
      · exact hQ _ _ A a w h hR hS hd (.refl _ _) (.refl hm _)
      · have := (Array.getElem?_eq_some_iff.1 hz).1; omega
  | succ fuel ih =>
    intro listed tL FL A a w hcnt hP hm hR hS hd hQ
    by_cases hfull : ∀ i, i < p → Lp listed i
    · obtain ⟨e1, e2⟩ := hP.full hB hF hfull
      have hL : ∀ i, Lp listed i ↔ i < p := fun i => ⟨hP.lt i, hfull i⟩
      have hc := count_all p (by rw [hP.size]; exact hpn) hL
      rcases hEnd with ⟨h, _⟩ | ⟨rest, z, hz, hkz, h1, h2, h3⟩
      · rw [hcnt, hP.size] at hc; omega
      · have hfl : fuel + 1 = rest.length := by rw [hcnt, hP.size] at hc; omega
        rw [hfl]
        subst e1; subst e2
        exact seq_any hE hok hB hz hkz rest p (ts p) (Fs p) A a w listed (Nat.le_refl _) h1 h2 hP.size hL hP.closed h3 hm hR hS hd hQ
    · have hnone : Region.ready .any ops listed ≠ [] := fun h0 => hfull fun i hi => some_ready hB hP.size h0 i (by omega)
      refine ⟨fun h0 => absurd h0 hnone, fun i hi => ?_⟩
      have hip : i < p := by
        refine Nat.lt_of_not_le fun hpi => ?_
        have hu := unlisted (mem_ready.1 hi).1
        rcases hEnd with ⟨h, _⟩ | ⟨rest, z, hz, hkz, _⟩
        · rw [hP.size] at hu; omega
        · refine hfull fun j hj => ?_
          exact hP.closed.ready hi (hB.tail j i p z (by omega) hpi (by rw [hP.size] at hu; exact hu.1) hz hkz)
      obtain ⟨o, FN, ho, hP', hcase⟩ := hP.step hB hF hip hi
      have hcnt' : (listed.setIfInBounds i true).toList.countP (fun b => !b) = fuel := by
        have := count_set (mem_ready.1 hi).1
        omega
      unfold wpOp
      simp only [ho]
      rcases hcase with ⟨hw, hW, hFN⟩ | ⟨hw, hop⟩ | ⟨hw, hop, hFN⟩
      · rcases want_sound (R := Bool) hS hw with ⟨_, h1⟩ | ⟨h1, _⟩
        · simp at h1
        · simp only [h1, Bool.false_eq_true, if_false]
          subst hFN
          rw [hW] at hP'
          exact ih _ _ _ A (a.put o.dst undef) w hcnt' hP' hm hR (hS.put o.dst (skip_rel w A)) (by rw [put_defers]; exact hd) hQ
      · rcases want_sound (R := Bool) hS hw with ⟨h1, _⟩ | ⟨_, h1⟩
        · simp only [h1, if_true]
          refine .inl (opAll_ok (R := V × List V × Fo) (r := (W i, tL, FN)) hE hok hR hS (hop fun v t F => some (v, t, F)) _ _ (fun v u t' F' A' w' h2 hR' hS' hv hst hgr hgn => ?_))
          simp only [Option.some.injEq, Prod.mk.injEq] at h2
          obtain ⟨rfl, rfl, rfl⟩ := h2
          refine ih _ _ _ A' (a.put o.dst u) w' hcnt' hP' (Nat.le_trans hm hgr.len) hR' (hS'.put o.dst hv) (by rw [put_defers]; exact hd) ?_
          intro t2 F2 A2 a2 w2 g1 g3 g4 g5 g6 g7
          exact hQ t2 F2 A2 a2 w2 g1 g3 g4 g5 (hst.trans' g6 (fun b hb => hgr.own b hb)) ((PG.of hm hgr hgn).trans g7 hst.size)
        · simp at h1
      · rcases want_sound (R := Bool) hS hw with ⟨h1, _⟩ | ⟨_, h1⟩
        · simp only [h1, if_true]
          subst hFN
          refine .inl (opD_ok hE hok hR hS hop (fun u w' hv hb => ?_))
          refine ih _ _ _ A (a.put o.dst u) w' hcnt' hP' hm (hR.below hb) ((hS.below hb).put o.dst hv) (by rw [put_defers]; exact hd) ?_
          intro t2 F2 A2 a2 w2 g1 g3 g4 g5 g6 g7
          exact hQ t2 F2 A2 a2 w2 g1 g3 g4 g5 ((Step.of_below hb).trans' g6 (fun b hb => .inl hb)) ((PG.refl hm w).trans g7 hb.size)
        · simp at h1

theorem draw_sound (hE : EnvOK E P) (hok : CallOK P call) {m : Nat} (hB : drawOK E.scal E.pur ops = true) (t : List V) (F : Fo) (A : List (Option RI)) (a : Act) (w : World) (h : runOpsD E call ops.toList ops.toList t F k = some r)
    (hm : m ≤ A.length) (hR : Roots w A F) (hS : Slots w A t a.tmps) (hd : a.defers = []) {Q : Exit → Act → World → Prop}
    (hQ : ∀ t' F' A' a' w', k t' F' = some r → Roots w' A' F' → Slots w' A' t' a'.tmps → a'.defers = [] → Step A w w' → PG m A A' w → Q .normal a' w') :
    wpAny P .any ops Q ops.size (Array.replicate ops.size false) a w := by
  have hL := drawOK_lawful hB
  obtain ⟨p, ts, Fs, W, Ls, _, h2, h3, _, h4, h5⟩ := trace ops.toList 0 t F [] (fun j => by simp) (by simp) h
  have hno : ∀ i, ¬ Lp (Array.replicate ops.size false) i := fun i => by
    unfold Lp
    by_cases hi : i < ops.size <;> simp [hi]
  refine any_sound hE hok hL (fun j hj => h4 j (by omega) hj) h5 ops.size _ t F A a w (by rw [Array.toList_replicate, List.countP_replicate]; simp) ⟨by simp, fun i hi => absurd hi (hno i), fun j y e _ hl => absurd hl (hno j), ?_, 0, by omega, h3.symm, fun i o _ _ _ => ⟨fun hi => absurd hi (hno i), fun hi => by omega⟩⟩ hm hR hS hd hQ
  exact ⟨by rw [h2], fun s c hs => .inr ⟨fun i o _ _ hl => hno i hl, by rw [h2]; exact hs⟩⟩

end
end Go.Proofs.YtjbddmmammgmjaaE

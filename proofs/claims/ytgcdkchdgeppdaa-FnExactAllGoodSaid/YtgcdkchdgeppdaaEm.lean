/- The engine, thirteenth part: code and functions do on the machine what the interpreter says; conditions: the tables are the program's own. -/
import Derived.Test.YtgcdkchdgeppdaaEl
namespace Go.Proofs.YtgcdkchdgeppdaaE
open Go.RowKit
set_option linter.unusedVariables false
set_option linter.unusedSimpArgs false

/-- The first m roots stay in their places. -/
structure PG (m : Nat) (A A' : List (Option RI)) (w : World) : Prop where
  len : m ≤ A'.length
  old : ∀ (r : Nat) (x : RI), r < m → A[r]? = some (some x) → A'[r]? = some (some x) ∨ A'[r]? = some none
  gone : ∀ (r : Nat), r < m → A[r]? = some none → A'[r]? = some none
  own : ∀ b, Own A' b → Own A b ∨ w.heap.size ≤ b

theorem PG.of {m : Nat} {A A' : List (Option RI)} {w : World} (hm : m ≤ A.length) (h : Grows A A' w) (hn : ∀ (r : Nat), A[r]? = some none → A'[r]? = some none) : PG m A A' w :=
  ⟨Nat.le_trans hm h.len, fun r x _ hx => h.old r x hx, fun r _ hr => hn r hr, h.own⟩
theorem PG.refl {m : Nat} {A : List (Option RI)} (hm : m ≤ A.length) (w : World) : PG m A A w := ⟨hm, fun _ _ _ h => .inl h, fun _ _ h => h, fun _ h => .inl h⟩
theorem PG.trans {m : Nat} {A B C : List (Option RI)} {w w' : World} (h : PG m A B w) (k : PG m B C w') (hw : w.heap.size ≤ w'.heap.size) : PG m A C w :=
  ⟨k.len, fun r x hr hx => by
    rcases h.old r x hr hx with h1 | h1
    · exact k.old r x hr h1
    · exact .inr (k.gone r hr h1), fun r hr hn => k.gone r hr (h.gone r hr hn), fun b hb => by
    rcases k.own b hb with h1 | h1
    · exact h.own b h1
    · exact .inr (Nat.le_trans hw h1)⟩
theorem Step.trans' {A B : List (Option RI)} {w w1 w2 : World} (h : Step A w w1) (k : Step B w1 w2) (g : ∀ b, Own B b → Own A b ∨ w.heap.size ≤ b) : Step A w w2 :=
  ⟨k.os.trans h.os, k.tape.trans h.tape, k.output.trans h.output, Nat.le_trans h.size k.size, fun b hb hf => by
    rw [k.block b (Nat.lt_of_lt_of_le hb h.size) (fun ho => by
      rcases g b ho with h1 | h1
      · exact hf h1
      · omega), h.block b hb hf]⟩

/-- How the interpreter's end and the machine's belong together. -/
def exRel : Ex → Exit → Prop
  | .normal, .normal => True
  | .exit i, .exit j => i = j
  | .ret, .ret => True
  | _, _ => False

section
variable [B : Bad]
variable {R : Type} {E : Env} {P : Program} {call : Ca} {r : R}

/-- What code comes to. -/
def Post (k : Ex → List V → Fo → Option R) (r : R) (m : Nat) (A : List (Option RI)) (w : World) (e : Exit) (a' : Act) (w' : World) : Prop :=
  ∃ ex t' F' A', k ex t' F' = some r ∧ exRel ex e ∧ Roots w' A' F' ∧ Slots w' A' t' a'.tmps ∧ a'.defers = [] ∧ Step A w w' ∧ PG m A A' w

theorem Slots.put {w : World} {A : List (Option RI)} {t : List V} {a : Act} (h : Slots w A t a.tmps) (dst : Option Tmp) {v : V} {u : Value} (hv : RelV w A v u) : Slots w A (put t dst v) (a.put dst u).tmps := by
  cases dst with
  | none => exact h
  | some d =>
    refine ⟨by simp [Go.Proofs.YtgcdkchdgeppdaaE.put, Act.put, h.1], fun i c x h1 h2 => ?_⟩
    simp only [Go.Proofs.YtgcdkchdgeppdaaE.put, Act.put] at h1 h2
    rw [List.getElem?_set] at h1
    rw [Array.getElem?_setIfInBounds] at h2
    by_cases hd : d = i
    · subst hd
      simp only [if_true] at h1 h2
      split at h1
      · rename_i hlt
        rw [if_pos (by rw [← h.1]; exact hlt)] at h2
        injection h1 with h1; injection h2 with h2
        subst h1; subst h2; exact hv
      · simp at h1
    · rw [if_neg hd] at h1 h2
      exact h.2 i c x h1 h2

omit B in
theorem put_defers (a : Act) (dst : Option Tmp) (u : Value) : (a.put dst u).defers = a.defers := by cases dst <;> rfl

omit B in
theorem nth_get : ∀ (t : List V) (i : Nat), nth t i ≠ .dead → t[i]? = some (nth t i)
  | [], i, h => absurd (by rfl) h
  | c :: t, 0, _ => rfl
  | c :: t, i + 1, h => by simpa [nth] using nth_get t i (by simpa [nth] using h)

theorem want_sound {w : World} {A : List (Option RI)} {t : List V} {a : Act} (hS : Slots w A t a.tmps) {ops : Array Oper} {o : Oper} {yes no : Option R} (h : wantV ops.toList t o yes no = some r) :
    (Region.wanted o (yielded ops a.tmps) = true ∧ yes = some r) ∨ (Region.wanted o (yielded ops a.tmps) = false ∧ no = some r) := by
  unfold wantV at h
  split at h
  · rename_i hg; exact .inl ⟨by simp [Region.wanted, hg], h⟩
  · rename_i j want hg
    split at h
    case h_2 => simp at h
    rename_i d hd
    have hdst : (ops[j]?).bind (·.dst) = some d := by
      unfold dstOf at hd
      split at hd
      · rename_i o' ho'
        have : ops[j]? = some o' := by simpa using ho'
        rw [this]; exact hd
      · simp at hd
    have hy : ∀ (c : V), nth t d = c → c ≠ .dead → ∃ u, a.tmps[d]? = some u ∧ RelV w A c u := by
      intro c hc hne
      subst hc
      have h1 := nth_get t d hne
      have hlt : d < a.tmps.size := by rw [← hS.1]; exact (List.getElem?_eq_some_iff.mp h1).1
      exact ⟨a.tmps[d], by simp [hlt], hS.2 d _ _ h1 (by simp [hlt])⟩
    split at h
    · rename_i q hq
      obtain ⟨u, h1, h2⟩ := hy _ hq (by simp)
      have := h2.lit_inv
      subst this
      have hyd : yielded ops a.tmps j = some q := by simp [yielded, hdst, h1]
      split at h
      · exact .inl ⟨by simp [Region.wanted, hg, hyd], h⟩
      · exact .inl ⟨by simp [Region.wanted, hg, hyd], h⟩
      · exact .inr ⟨by simp [Region.wanted, hg, hyd], h⟩
      · exact .inr ⟨by simp [Region.wanted, hg, hyd], h⟩
    · rename_i hq
      obtain ⟨u, h1, h2⟩ := hy _ hq (by simp)
      cases h2 with
      | tup _ vs hn _ =>
        have hyd : yielded ops a.tmps j = none := by simp [yielded, hdst, h1]
        exact .inr ⟨by simp [Region.wanted, hg, hyd], h⟩
    · simp at h

theorem opAll_ok (hE : EnvOK E P) (hok : CallOK P call) {w : World} {A : List (Option RI)} {F : Fo} {t : List V} {a : Act} {o : Oper} {k : V → List V → Fo → Option R} (hR : Roots w A F) (hS : Slots w A t a.tmps)
    (h : opAll E call o t F k = some r) : OpOK P w A a o k r := by
  unfold opAll at h
  split at h
  · exact opQ_ok hE hR hS h
  · exact opE_ok hE hR hS h
  · split at h
    · rename_i c ho; exact opC_ok hE hok hR hS ho h
    · simp at h

theorem skip_rel (w : World) (A : List (Option RI)) : RelV w A (.tup []) undef := .tup [] #[] rfl (fun i c v h => by simp at h)

theorem runOps_sound (hE : EnvOK E P) (hok : CallOK P call) {m : Nat} {ops : Array Oper} {k : List V → Fo → Option R} {Q : Exit → Act → World → Prop} : ∀ (l : List Oper) (i : Nat) (t : List V) (F : Fo) (A : List (Option RI)) (a : Act) (w : World),
    (∀ j, l[j]? = ops[i + j]?) → runOps E call ops.toList l t F k = some r → m ≤ A.length → Roots w A F → Slots w A t a.tmps → a.defers = [] →
    (∀ t' F' A' a' w', k t' F' = some r → Roots w' A' F' → Slots w' A' t' a'.tmps → a'.defers = [] → Step A w w' → PG m A A' w → Q .normal a' w') →
    wpOps P ops Q (List.range' i l.length) a w
  | [], i, t, F, A, a, w, hl, h, hm, hR, hS, hd, hQ => hQ t F A a w (by rw [runOps] at h; exact h) hR hS hd (.refl _ _) (.refl hm _)
  | o :: l, i, t, F, A, a, w, hl, h, hm, hR, hS, hd, hQ => by
    have ho : ops[i]? = some o := by simpa using (hl 0).symm
    have hl' : ∀ j, l[j]? = ops[(i + 1) + j]? := fun j => by
      have := hl (j + 1)
      rw [List.getElem?_cons_succ] at this
      rw [this]; congr 1; omega
    simp only [List.length_cons, List.range'_succ, wpOps, ho]
    simp only [runOps, putK_eq, spine_eq] at h
    rcases want_sound hS h with ⟨hw, h1⟩ | ⟨hw, h1⟩
    · simp only [hw, if_true]
      refine .inl (opAll_ok hE hok hR hS h1 _ _ (fun v u t' F' A' w' h2 hR' hS' hv hst hgr hn => ?_))
      refine runOps_sound hE hok l (i + 1) (put t' o.dst v) F' A' (a.put o.dst u) w' hl' h2 (Nat.le_trans hm hgr.len) hR' (hS'.put o.dst hv) (by rw [put_defers]; exact hd) ?_
      intro t2 F2 A2 a2 w2 g1 g3 g4 g5 g6 g7
      exact hQ t2 F2 A2 a2 w2 g1 g3 g4 g5 (hst.trans' g6 (fun b hb => hgr.own b hb)) ((PG.of hm hgr hn).trans g7 hst.size)
    · simp only [hw, Bool.false_eq_true, if_false]
      exact runOps_sound hE hok l (i + 1) (put t o.dst (.tup [])) F A (a.put o.dst undef) w hl' h1 hm hR (hS.put o.dst (skip_rel w A)) (by rw [put_defers]; exact hd) hQ

theorem opD_sound (hE : EnvOK E P) (hok : CallOK P call) {w : World} {A : List (Option RI)} {F : Fo} {t : List V} {a : Act} {o : Oper} {k : V → Option R} (hR : Roots w A F) (hS : Slots w A t a.tmps)
    (h : opD E call o t F k = some r) : ∃ v u, k v = some r ∧ RelV w A v u ∧ ∀ w', Below w.heap.size w w' → o.quietAt P a (fun w'' => Below w.heap.size w w'') w' u := by
  have quiet : opQ E t F o.op k = some r → ∃ v u, k v = some r ∧ RelV w A v u ∧ ∀ w', Below w.heap.size w w' → o.quietAt P a (fun w'' => Below w.heap.size w w'') w' u := by
    intro h
    obtain ⟨v, u, h1, h2, h3⟩ := opQ_sound hE hR hS o.op h
    refine ⟨v, u, h1, h2, fun w' hb => ?_⟩
    unfold Oper.quietAt
    rw [h3 w' o hb rfl]
    exact ⟨rfl, rfl⟩
  unfold opD at h
  split at h
  · rename_i c ho
    split at h
    · rename_i f hc
      unfold opS at h
      split at h
      case h_2 => simp at h
      rename_i f' hc'
      split at h
      case h_2 => simp at h
      rename_i g caps hf
      split at h
      case h_2 => simp at h
      split at h
      case h_2 => simp at h
      rename_i v hcall
      split at h
      case h_2 => simp at h
      rename_i hs
      obtain ⟨us, hV, hrun⟩ := clo_run (P := P) hS ho hc' hf (hok _ _ _ _ _ hcall).1
      refine ⟨v, sval v, h, ?_, fun w' hb => ?_⟩
      · obtain ⟨e, w', fr, ⟨u, he, h2, hb⟩, _⟩ := scal_call hok hR hV hcall []
        rw [← scal_val h2 hs]
        exact scal_rel h2 hs
      · unfold Oper.quietAt
        rw [hrun w']
        refine ⟨rfl, (scal_call hok (hR.below hb) ⟨hV.1, fun i c u h1 h2 => (hV.2 i c u h1 h2).mono (fun b _ hlt => hb.block b hlt) (fun _ hf _ => hf) (fun _ _ hx => hx)⟩ hcall).mono ?_⟩
        rintro e w'' ⟨u, rfl, h2, hb2⟩
        exact ⟨by rw [scal_val h2 hs], hb.trans (hb2.mono hb.size)⟩
    · rename_i hne
      rw [← ho] at h
      exact quiet h
  · exact quiet h

theorem runOpsD_sound (hE : EnvOK E P) (hok : CallOK P call) {ops : Array Oper} {k : List V → Fo → Option R} {w : World} {A : List (Option RI)} {F : Fo} (hR : Roots w A F) {Q : Act → Prop} : ∀ (l : List Oper) (t : List V) (a : Act),
    runOpsD E call ops.toList l t F k = some r → Slots w A t a.tmps → a.defers = [] → (∀ t' a', k t' F = some r → Slots w A t' a'.tmps → a'.defers = [] → Q a') →
    wpQuiet P ops (fun w' => Below w.heap.size w w') Q l a
  | [], t, a, h, hS, hd, hQ => hQ t a (by rw [runOpsD] at h; exact h) hS hd
  | o :: l, t, a, h, hS, hd, hQ => by
    simp only [runOpsD, putK_eq] at h
    simp only [wpQuiet]
    rcases want_sound hS h with ⟨hw, h1⟩ | ⟨hw, h1⟩
    · simp only [hw, if_true]
      obtain ⟨v, u, g1, g2, g3⟩ := opD_sound hE hok hR hS h1
      exact ⟨u, g3, runOpsD_sound hE hok hR l _ _ g1 (hS.put o.dst g2) (by rw [put_defers]; exact hd) hQ⟩
    · simp only [hw, Bool.false_eq_true, if_false]
      exact runOpsD_sound hE hok hR l _ _ h1 (hS.put o.dst (skip_rel w A)) (by rw [put_defers]; exact hd) hQ

omit B in
theorem keepT_get {ks : List Nat} : ∀ (t : List V) (i j : Nat) (c : V), (keepT ks i t)[j]? = some c → c = .dead ∨ t[j]? = some c
  | [], i, j, c, h => by simp [keepT] at h
  | x :: t, i, 0, c, h => by
    simp only [keepT, List.getElem?_cons_zero, Option.some.injEq] at h
    split at h
    · exact .inr (by simp [h])
    · exact .inl h.symm
  | x :: t, i, j + 1, c, h => by
    simp only [keepT, List.getElem?_cons_succ] at h
    simpa using keepT_get t (i + 1) j c h
omit B in
theorem keepT_len {ks : List Nat} : ∀ (t : List V) (i : Nat), (keepT ks i t).length = t.length
  | [], i => rfl
  | x :: t, i => by simp [keepT, keepT_len t]

omit B in
theorem upto_get : ∀ (m i j : Nat), j < m → (upto m i)[j]? = some (i + j)
  | 0, i, j, h => by omega
  | m + 1, i, 0, h => by simp [upto]
  | m + 1, i, j + 1, h => by
    rw [upto, List.getElem?_cons_succ, upto_get m (i + 1) j (by omega)]; congr 1; omega
omit B in
theorem pref_get : ∀ {xs ys : List Nat}, prefN xs ys = true → ∀ (j x : Nat), xs[j]? = some x → ys[j]? = some x
  | [], ys, _, j, x, h => by simp at h
  | a :: xs, [], h, j, x, _ => by simp [prefN] at h
  | a :: xs, b :: ys, h, j, x, hx => by
    simp only [prefN] at h
    split at h
    · rename_i hb
      have : a = b := Nat.eq_of_beq_eq_true hb
      subst this
      cases j with
      | zero => simpa using hx
      | succ j => simpa using pref_get h j x (by simpa using hx)
    · simp at h

/-- The roots put in order, those that nothing leads to let go. -/
theorem pack_all {w : World} {A : List (Option RI)} {F : Fo} (hR : Roots w A F) {m : Nat} (hm : m ≤ A.length) {L : List Nat} (hn : nodupN L = true) (hp : prefN (upto m 0) L = true) :
    Roots w (packA L A) (packF L F) ∧ (∀ {c : V} {v : Value}, RelV w A c v → RelV w (packA L A) (subV (pkS L) (pkP L) (pkB L) c) v) ∧ PG m A (packA L A) w := by
  have hS : ∀ b, Free A b → b < w.heap.size → Free (packA L A) b := fun b hf _ => ⟨fun ho => hf.1 (packA_own ho), hf.2⟩
  have hL : ∀ r, r < m → L[r]? = some r := fun r hr => by simpa using pref_get hp r (0 + r) (upto_get m 0 r hr)
  refine ⟨Roots.pack hR hn hS (fun b ho => hR.ok b (packA_own ho)) hR.bad, fun hc => pack_sub hS hc, ⟨?_, fun r x hr hx => .inl (packA_of (hL r hr) hx), fun r hr hx => ?_, fun b hb => .inl (packA_own hb)⟩⟩
  · cases m with
    | zero => omega
    | succ m =>
      have := (List.getElem?_eq_some_iff.mp (hL m (by omega))).1
      simp [packA]; omega
  · unfold packA
    rw [List.getElem?_map, hL r hr]; simp [hx]

theorem exec_sound (hE : EnvOK E P) (hok : CallOK P call) {n m : Nat} {kp : List (Nat × List Nat)} : ∀ (c : Code), drawsB c = true → ∀ (t : List V) (F : Fo) (k : Ex → List V → Fo → Option R), exec E call n m kp c t F k = some r →
    ∀ (A : List (Option RI)) (a : Act) (w : World), m ≤ A.length → Roots w A F → Slots w A t a.tmps → a.defers = [] → c.wp P (Post k r m A w) a w := by
  intro c
  induction c with
  | skip => intro hB t F k h A a w hm hR hS hd; exact wp_skip ⟨.normal, t, F, A, h, trivial, hR, hS, hd, .refl _ _, .refl hm _⟩
  | region id ops draw =>
    intro hB t F k h A a w hm hR hS hd
    simp only [exec] at h
    split at h
    · refine wp_region ?_
      have := runOps_sound (P := P) (Q := Post k r m A w) hE hok ops.toList 0 t F A a w (fun j => by simp) h hm hR hS hd (fun t' F' A' a' w' g1 g2 g3 g4 g5 g6 => ⟨.normal, t', F', A', g1, trivial, g2, g3, g4, g5, g6⟩)
      rw [List.range_eq_range']
      simpa using this
    · refine wp_region_quiet (C := fun w' => Below w.heap.size w w') hE.mixed hB ⟨rfl, rfl, rfl, Nat.le_refl _, fun _ _ => rfl⟩ ?_
      refine runOpsD_sound hE hok hR ops.toList t a h hS hd (fun t' a' g1 g2 g3 => ?_)
      intro w' hb
      exact ⟨.normal, t', F, A, g1, trivial, hR.below hb, g2.below hb, g3, .of_below hb, .refl hm _⟩
  | seq x y ihx ihy =>
    intro hB t F k h A a w hm hR hS hd
    simp only [exec] at h
    have hB2 : drawsB x = true ∧ drawsB y = true := by
      simp only [drawsB] at hB
      split at hB
      · rename_i hx; exact ⟨hx, hB⟩
      · simp at hB
    refine wp_seq (wp_mono (ihx hB2.1 t F _ h A a w hm hR hS hd) ?_)
    rintro e a1 w1 ⟨ex, t1, F1, A1, g1, g2, g3, g4, g5, g6, g7⟩
    cases ex with
    | normal =>
      cases e <;> try exact g2.elim
      refine wp_mono (ihy hB2.2 t1 F1 k g1 A1 a1 w1 g7.len g3 g4 g5) ?_
      rintro e2 a2 w2 ⟨ex2, t2, F2, A2, k1, k2, k3, k4, k5, k6, k7⟩
      exact ⟨ex2, t2, F2, A2, k1, k2, k3, k4, k5, g6.trans' k6 g7.own, g7.trans k7 g6.size⟩
    | exit i =>
      cases e <;> try exact g2.elim
      exact ⟨.exit i, t1, F1, A1, g1, g2, g3, g4, g5, g6, g7⟩
    | ret =>
      cases e <;> try exact g2.elim
      exact ⟨.ret, t1, F1, A1, g1, g2, g3, g4, g5, g6, g7⟩
  | cond cnd x y ihx ihy =>
    intro hB t F k h A a w hm hR hS hd
    simp only [exec] at h
    split at h
    case h_2 => simp at h
    rename_i q hq
    have hv := eval_lit hS hq
    have hB2 : drawsB x = true ∧ drawsB y = true := by
      simp only [drawsB] at hB
      split at hB
      · rename_i hx; exact ⟨hx, hB⟩
      · simp at hB
    split at h
    · exact wp_cond_true hv (ihx hB2.1 t F k h A a w hm hR hS hd)
    · exact wp_cond_false hv (ihy hB2.2 t F k h A a w hm hR hS hd)
  | block id c ih =>
    intro hB t F k h A a w hm hR hS hd
    simp only [exec] at h
    refine wp_block (wp_mono (ih hB t F _ h A a w hm hR hS hd) ?_)
    rintro e a1 w1 ⟨ex, t1, F1, A1, g1, g2, g3, g4, g5, g6, g7⟩
    cases ex with
    | normal =>
      cases e <;> try exact g2.elim
      exact ⟨.normal, t1, F1, A1, g1, trivial, g3, g4, g5, g6, g7⟩
    | exit i =>
      cases e <;> try exact g2.elim
      rename_i j
      have hij : i = j := g2
      subst hij
      simp only [Exit.inBlock]
      simp only at g1
      split at g1
      · rename_i hb
        have : i = id := Nat.eq_of_beq_eq_true hb
        rw [if_pos this]
        exact ⟨.normal, t1, F1, A1, g1, trivial, g3, g4, g5, g6, g7⟩
      · rename_i hb
        have : ¬ i = id := fun e => by subst e; simp at hb
        rw [if_neg this]
        exact ⟨.exit i, t1, F1, A1, g1, rfl, g3, g4, g5, g6, g7⟩
    | ret =>
      cases e <;> try exact g2.elim
      exact ⟨.ret, t1, F1, A1, g1, trivial, g3, g4, g5, g6, g7⟩
  | loop c ih =>
    intro hB t F k h A a w hm hR hS hd
    simp only [exec] at h
    split at h
    case h_2 => simp at h
    rename_i ks hks
    refine wp_loop_ghost (fun (g : Nat) (a' : Act) (w' : World) => ∃ t' F' A', loopN (fun t F k => exec E call n m kp c t F k) m ks g t' F' k = some r ∧ Roots w' A' F' ∧ Slots w' A' t' a'.tmps ∧ a'.defers = [] ∧ Step A w w' ∧ PG m A A' w) n
      ⟨t, F, A, h, hR, hS, hd, .refl _ _, .refl hm _⟩ ?_
    rintro g a1 w1 ⟨t1, F1, A1, g1, g3, g4, g5, g6, g7⟩
    cases g with
    | zero => simp [loopN] at g1
    | succ g =>
      simp only [loopN, normT] at g1
      unfold normT.normOn at g1
      split at g1
      case h_2 => simp at g1
      rename_i c1 c2
      rw [forceL_eq] at g1
      obtain ⟨p1, p2, p3⟩ := pack_all g3 g7.len c1 c2
      have hS2 : Slots w1 (packA (close F1 400 (upto m 0 ++ refsL (keepT ks 0 t1)) []) A1) (subL (pkS (close F1 400 (upto m 0 ++ refsL (keepT ks 0 t1)) [])) (pkP (close F1 400 (upto m 0 ++ refsL (keepT ks 0 t1)) [])) (pkB (close F1 400 (upto m 0 ++ refsL (keepT ks 0 t1)) [])) (keepT ks 0 t1)) a1.tmps := by
        refine ⟨by rw [subL_eq, List.length_map, keepT_len]; exact g4.1, fun i c v h1 h2 => ?_⟩
        rw [subL_eq, List.getElem?_map, Option.map_eq_some_iff] at h1
        obtain ⟨c0, hc0, rfl⟩ := h1
        rcases keepT_get t1 0 i c0 hc0 with rfl | hc1
        · rw [subV]; exact .dead _
        · exact p2 (g4.2 i c0 v hc1 h2)
      refine wp_mono (ih hB _ _ _ g1 _ a1 w1 p3.len p1 hS2 g5) ?_
      rintro e a2 w2 ⟨ex, t2, F2, A2, k1, k2, k3, k4, k5, k6, k7⟩
      have hst : Step A w w2 := g6.trans' k6 (fun b hb => g7.own b (packA_own hb))
      have hpg : PG m A A2 w := (g7.trans p3 g6.size).trans k7 g6.size
      cases ex with
      | normal =>
        cases e <;> try exact k2.elim
        exact ⟨g, by omega, t2, F2, A2, k1, k3, k4, k5, hst, hpg⟩
      | exit i =>
        cases e <;> try exact k2.elim
        exact ⟨.exit i, t2, F2, A2, k1, k2, k3, k4, k5, hst, hpg⟩
      | ret =>
        cases e <;> try exact k2.elim
        exact ⟨.ret, t2, F2, A2, k1, k2, k3, k4, k5, hst, hpg⟩
  | exit id => intro hB t F k h A a w hm hR hS hd; exact wp_exit ⟨.exit id, t, F, A, h, rfl, hR, hS, hd, .refl _ _, .refl hm _⟩
  | ret => intro hB t F k h A a w hm hR hS hd; exact wp_ret ⟨.ret, t, F, A, h, trivial, hR, hS, hd, .refl _ _, .refl hm _⟩
  | _ => intro hB t F k h; simp [exec] at h

end
end Go.Proofs.YtgcdkchdgeppdaaE

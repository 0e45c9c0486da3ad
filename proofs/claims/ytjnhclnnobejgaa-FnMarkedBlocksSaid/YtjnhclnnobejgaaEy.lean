/- The engine, after the regions that draw: code does on the machine what the interpreter says; conditions: none. -/
import Derived.Test.YtjnhclnnobejgaaEt
namespace Go.Proofs.YtjnhclnnobejgaaE
open Go.RowKit
set_option linter.unusedVariables false
set_option linter.unusedSimpArgs false
variable [DW : Drw]

section
variable [B : Bad]
variable {R : Type} {E : Env} {P : Program} {call : Ca} {r : R}

omit B in
omit DW in
theorem keepT_get {ks : List Nat} : ∀ (t : List V) (i j : Nat) (c : V), (keepT ks i t)[j]? = some c → c = .dead ∨ t[j]? = some c
  | [], i, j, c, h => by simp [keepT] at h
  | x :: t, i, 0, c, h => by
    simp only [keepT, List.getElem?_cons_zero, Option.some.injEq] at h
    split at h
    · exact .inr (by simp [h])
    · exact .inl h.symm
  | x :: t, i, j + 1, c, h => by
    simp only [keepT, List.getElem?_cons_succ] at h
    simpa using keepT_get t (i + 1) j c h
omit B in
omit DW in
theorem keepT_len {ks : List Nat} : ∀ (t : List V) (i : Nat), (keepT ks i t).length = t.length
  | [], i => rfl
  | x :: t, i => by simp [keepT, keepT_len t]

omit B in
omit DW in
theorem upto_get : ∀ (m i j : Nat), j < m → (upto m i)[j]? = some (i + j)
  | 0, i, j, h => by omega
  | m + 1, i, 0, h => by simp [upto]
  | m + 1, i, j + 1, h => by
    rw [upto, List.getElem?_cons_succ, upto_get m (i + 1) j (by omega)]; congr 1; omega
omit B in
omit DW in
theorem pref_get : ∀ {xs ys : List Nat}, prefN xs ys = true → ∀ (j x : Nat), xs[j]? = some x → ys[j]? = some x
  | [], ys, _, j, x, h => by simp at h
  | a :: xs, [], h, j, x, _ => by simp [prefN] at h
  | a :: xs, b :: ys, h, j, x, hx => by
    simp only [prefN] at h
    split at h
    · rename_i hb
      have : a = b := Nat.eq_of_beq_eq_true hb
      subst this
      cases j with
      | zero => simpa using hx
      | succ j => simpa using pref_get h j x (by simpa using hx)
    · simp at h

omit DW in
/-- The roots put in order, those that nothing leads to let go. -/
theorem pack_all {w : World} {A : List (Option RI)} {F : Fo} (hR : Roots w A F) {m : Nat} (hm : m ≤ A.length) {L : List Nat} (hn : nodupN L = true) (hp : prefN (upto m 0) L = true) :
    Roots w (packA L A) (packF L F) ∧ (∀ {c : V} {v : Value}, RelV w A c v → RelV w (packA L A) (subV (pkS L) (pkP L) (pkB L) c) v) ∧ PG m A (packA L A) w := by
  have hS : ∀ b, Free A b → b < w.heap.size → Free (packA L A) b := fun b hf _ => ⟨fun ho => hf.1 (packA_own ho), hf.2⟩
  have hL : ∀ r, r < m → L[r]? = some r := fun r hr => by simpa using pref_get hp r (0 + r) (upto_get m 0 r hr)
  refine ⟨Roots.pack hR hn hS (fun b ho => hR.ok b (packA_own ho)) hR.bad, fun hc => pack_sub hS hc, ⟨?_, fun r x hr hx => .inl (packA_of (hL r hr) hx), fun r hr hx => ?_, fun b hb => .inl (packA_own hb)⟩⟩
  · cases m with
    | zero => omega
    | succ m =>
      have := (List.getElem?_eq_some_iff.mp (hL m (by omega))).1
      simp [packA]; omega
  · unfold packA
    rw [List.getElem?_map, hL r hr]; simp [hx]

theorem exec_sound (hE : EnvOK E P) (hok : CallOK P call) {n m : Nat} {kp : List (Nat × List Nat)} : ∀ (c : Code), drawsB E.scal E.pur c = true → ∀ (t : List V) (F : Fo) (k : Ex → List V → Fo → Option R), exec E call n m kp c t F k = some r →
    ∀ (A : List (Option RI)) (a : Act) (w : World), m ≤ A.length → Roots w A F → Slots w A t a.tmps → a.defers = [] → c.wp P (Post k r m A w) a w := by
  intro c
  induction c with
  | skip => intro hB t F k h A a w hm hR hS hd; exact wp_skip ⟨.normal, t, F, A, h, trivial, hR, hS, hd, .refl _ _, .refl hm _⟩
  | region id ops draw =>
    intro hB t F k h A a w hm hR hS hd
    simp only [exec] at h
    split at h
    · refine wp_region ?_
      have := runOps_sound (P := P) (Q := Post k r m A w) hE hok ops.toList 0 t F A a w (fun j => by simp) h hm hR hS hd (fun t' F' A' a' w' g1 g2 g3 g4 g5 g6 => ⟨.normal, t', F', A', g1, trivial, g2, g3, g4, g5, g6⟩)
      rw [List.range_eq_range']
      simpa using this
    · have hb : Below w.heap.size w { w with drawn := w.drawn + 1 } := ⟨fun _ => Nat.le_succ _, rfl, rfl, rfl, Nat.le_refl _, fun _ _ => rfl⟩
      refine wp_region_any hE.mixed (draw_sound hE hok hB t F A a _ h hm (hR.below hb) (hS.below hb) hd (fun t' F' A' a' w' g1 g2 g3 g4 g5 g6 => ?_))
      exact ⟨.normal, t', F', A', g1, trivial, g2, g3, g4, (Step.of_below hb).trans g5 (.refl _ _), ⟨g6.len, g6.old, g6.gone, g6.own⟩⟩
  | seq x y ihx ihy =>
    intro hB t F k h A a w hm hR hS hd
    simp only [exec] at h
    have hB2 : drawsB E.scal E.pur x = true ∧ drawsB E.scal E.pur y = true := by
      simp only [drawsB] at hB
      split at hB
      · rename_i hx; exact ⟨hx, hB⟩
      · simp at hB
    refine wp_seq (wp_mono (ihx hB2.1 t F _ h A a w hm hR hS hd) ?_)
    rintro e a1 w1 ⟨ex, t1, F1, A1, g1, g2, g3, g4, g5, g6, g7⟩
    cases ex with
    | normal =>
      cases e <;> try exact g2.elim
      refine wp_mono (ihy hB2.2 t1 F1 k g1 A1 a1 w1 g7.len g3 g4 g5) ?_
      rintro e2 a2 w2 ⟨ex2, t2, F2, A2, k1, k2, k3, k4, k5, k6, k7⟩
      exact ⟨ex2, t2, F2, A2, k1, k2, k3, k4, k5, g6.trans' k6 g7.own, g7.trans k7 g6.size⟩
    | exit i =>
      cases e <;> try exact g2.elim
      exact ⟨.exit i, t1, F1, A1, g1, g2, g3, g4, g5, g6, g7⟩
    | ret =>
      cases e <;> try exact g2.elim
      exact ⟨.ret, t1, F1, A1, g1, g2, g3, g4, g5, g6, g7⟩
  | cond cnd x y ihx ihy =>
    intro hB t F k h A a w hm hR hS hd
    simp only [exec] at h
    split at h
    case h_2 => simp at h
    rename_i q hq
    have hv := eval_lit hS hq
    have hB2 : drawsB E.scal E.pur x = true ∧ drawsB E.scal E.pur y = true := by
      simp only [drawsB] at hB
      split at hB
      · rename_i hx; exact ⟨hx, hB⟩
      · simp at hB
    split at h
    · exact wp_cond_true hv (ihx hB2.1 t F k h A a w hm hR hS hd)
    · exact wp_cond_false hv (ihy hB2.2 t F k h A a w hm hR hS hd)
  | block id c ih =>
    intro hB t F k h A a w hm hR hS hd
    simp only [exec] at h
    refine wp_block (wp_mono (ih hB t F _ h A a w hm hR hS hd) ?_)
    rintro e a1 w1 ⟨ex, t1, F1, A1, g1, g2, g3, g4, g5, g6, g7⟩
    cases ex with
    | normal =>
      cases e <;> try exact g2.elim
      exact ⟨.normal, t1, F1, A1, g1, trivial, g3, g4, g5, g6, g7⟩
    | exit i =>
      cases e <;> try exact g2.elim
      rename_i j
      have hij : i = j := g2
      subst hij
      simp only [Exit.inBlock]
      simp only at g1
      split at g1
      · rename_i hb
        have : i = id := Nat.eq_of_beq_eq_true hb
        rw [if_pos this]
        exact ⟨.normal, t1, F1, A1, g1, trivial, g3, g4, g5, g6, g7⟩
      · rename_i hb
        have : ¬ i = id := fun e => by subst e; simp at hb
        rw [if_neg this]
        exact ⟨.exit i, t1, F1, A1, g1, rfl, g3, g4, g5, g6, g7⟩
    | ret =>
      cases e <;> try exact g2.elim
      exact ⟨.ret, t1, F1, A1, g1, trivial, g3, g4, g5, g6, g7⟩
  | loop c ih =>
    intro hB t F k h A a w hm hR hS hd
    simp only [exec] at h
    split at h
    case h_2 => simp at h
    rename_i ks hks
    refine wp_loop_ghost (fun (g : Nat) (a' : Act) (w' : World) => ∃ t' F' A', loopN (fun t F k => exec E call n m kp c t F k) m ks g t' F' k = some r ∧ Roots w' A' F' ∧ Slots w' A' t' a'.tmps ∧ a'.defers = [] ∧ Step A w w' ∧ PG m A A' w) n
      ⟨t, F, A, h, hR, hS, hd, .refl _ _, .refl hm _⟩ ?_
    rintro g a1 w1 ⟨t1, F1, A1, g1, g3, g4, g5, g6, g7⟩
    cases g with
    | zero => simp [loopN] at g1
    | succ g =>
      rw [loopN] at g1
      unfold normT at g1
      have hS0 : Slots w1 A1 (keepT ks 0 t1) a1.tmps := by
        refine ⟨by rw [keepT_len]; exact g4.1, fun i c v h1 h2 => ?_⟩
        rcases keepT_get t1 0 i c h1 with rfl | hc1
        · exact .dead _
        · exact g4.2 i c v hc1 h2
      obtain ⟨_, t0, F0, A0, g1, g3, hS0, _, q5, q6, q7⟩ := frzAll_sound (us := []) _ _ _ _ _ _ g1 g3 hS0 ⟨rfl, fun i c v h => by simp at h⟩
      have g7 : PG m A A0 w := g7.trans (PG.of g7.len q5 q6) g6.size
      unfold normT.normOn at g1
      split at g1
      case h_2 => simp at g1
      rename_i c1 c2
      rw [forceL_eq] at g1
      obtain ⟨p1, p2, p3⟩ := pack_all g3 g7.len c1 c2
      have hS2 : Slots w1 (packA (close F0 400 (upto m 0 ++ refsL t0) []) A0) (subL (pkS (close F0 400 (upto m 0 ++ refsL t0) [])) (pkP (close F0 400 (upto m 0 ++ refsL t0) [])) (pkB (close F0 400 (upto m 0 ++ refsL t0) [])) t0) a1.tmps := by
        refine ⟨by rw [subL_eq, List.length_map]; exact hS0.1, fun i c v h1 h2 => ?_⟩
        rw [subL_eq, List.getElem?_map, Option.map_eq_some_iff] at h1
        obtain ⟨c0, hc0, rfl⟩ := h1
        exact p2 (hS0.2 i c0 v hc0 h2)
      refine wp_mono (ih hB _ _ _ g1 _ a1 w1 p3.len p1 hS2 g5) ?_
      rintro e a2 w2 ⟨ex, t2, F2, A2, k1, k2, k3, k4, k5, k6, k7⟩
      have hst : Step A w w2 := g6.trans' k6 (fun b hb => g7.own b (packA_own hb))
      have hpg : PG m A A2 w := (g7.trans p3 g6.size).trans k7 g6.size
      cases ex with
      | normal =>
        cases e <;> try exact k2.elim
        exact ⟨g, by omega, t2, F2, A2, k1, k3, k4, k5, hst, hpg⟩
      | exit i =>
        cases e <;> try exact k2.elim
        exact ⟨.exit i, t2, F2, A2, k1, k2, k3, k4, k5, hst, hpg⟩
      | ret =>
        cases e <;> try exact k2.elim
        exact ⟨.ret, t2, F2, A2, k1, k2, k3, k4, k5, hst, hpg⟩
  | exit id => intro hB t F k h A a w hm hR hS hd; exact wp_exit ⟨.exit id, t, F, A, h, rfl, hR, hS, hd, .refl _ _, .refl hm _⟩
  | ret => intro hB t F k h A a w hm hR hS hd; exact wp_ret ⟨.ret, t, F, A, h, trivial, hR, hS, hd, .refl _ _, .refl hm _⟩
  | _ => intro hB t F k h; simp [exec] at h

end
end Go.Proofs.YtjnhclnnobejgaaE

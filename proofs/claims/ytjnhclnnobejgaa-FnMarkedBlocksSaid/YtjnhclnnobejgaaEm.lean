/- The engine, thirteenth part: code and functions do on the machine what the interpreter says; conditions: the tables are the program's own. -/
import Derived.Test.YtjnhclnnobejgaaEl
namespace Go.Proofs.YtjnhclnnobejgaaE
open Go.RowKit
set_option linter.unusedVariables false
set_option linter.unusedSimpArgs false
variable [DW : Drw]

/-- The first m roots stay in their places. -/
structure PG (m : Nat) (A A' : List (Option RI)) (w : World) : Prop where
  len : m ≤ A'.length
  old : ∀ (r : Nat) (x : RI), r < m → A[r]? = some (some x) → A'[r]? = some (some x) ∨ A'[r]? = some none
  gone : ∀ (r : Nat), r < m → A[r]? = some none → A'[r]? = some none
  own : ∀ b, Own A' b → Own A b ∨ w.heap.size ≤ b

omit DW in
theorem PG.of {m : Nat} {A A' : List (Option RI)} {w : World} (hm : m ≤ A.length) (h : Grows A A' w) (hn : ∀ (r : Nat), A[r]? = some none → A'[r]? = some none) : PG m A A' w :=
  ⟨Nat.le_trans hm h.len, fun r x _ hx => h.old r x hx, fun r _ hr => hn r hr, h.own⟩
omit DW in
theorem PG.refl {m : Nat} {A : List (Option RI)} (hm : m ≤ A.length) (w : World) : PG m A A w := ⟨hm, fun _ _ _ h => .inl h, fun _ _ h => h, fun _ h => .inl h⟩
omit DW in
theorem PG.trans {m : Nat} {A B C : List (Option RI)} {w w' : World} (h : PG m A B w) (k : PG m B C w') (hw : w.heap.size ≤ w'.heap.size) : PG m A C w :=
  ⟨k.len, fun r x hr hx => by
    rcases h.old r x hr hx with h1 | h1
    · exact k.old r x hr h1
    · exact .inr (k.gone r hr h1), fun r hr hn => k.gone r hr (h.gone r hr hn), fun b hb => by
    rcases k.own b hb with h1 | h1
    · exact h.own b h1
    · exact .inr (Nat.le_trans hw h1)⟩
theorem Step.trans' {A B : List (Option RI)} {w w1 w2 : World} (h : Step A w w1) (k : Step B w1 w2) (g : ∀ b, Own B b → Own A b ∨ w.heap.size ≤ b) : Step A w w2 :=
  ⟨fun s => Nat.le_trans (h.drawn s) (k.drawn s), k.os.trans h.os, k.tape.trans h.tape, k.output.trans h.output, Nat.le_trans h.size k.size, fun b hb hf => by
    rw [k.block b (Nat.lt_of_lt_of_le hb h.size) (fun ho => by
      rcases g b ho with h1 | h1
      · exact hf h1
      · omega), h.block b hb hf]⟩

/-- How the interpreter's end and the machine's belong together. -/
def exRel : Ex → Exit → Prop
  | .normal, .normal => True
  | .exit i, .exit j => i = j
  | .ret, .ret => True
  | _, _ => False

section
variable [B : Bad]
variable {R : Type} {E : Env} {P : Program} {call : Ca} {r : R}

/-- What code comes to. -/
def Post (k : Ex → List V → Fo → Option R) (r : R) (m : Nat) (A : List (Option RI)) (w : World) (e : Exit) (a' : Act) (w' : World) : Prop :=
  ∃ ex t' F' A', k ex t' F' = some r ∧ exRel ex e ∧ Roots w' A' F' ∧ Slots w' A' t' a'.tmps ∧ a'.defers = [] ∧ Step A w w' ∧ PG m A A' w

omit DW in
theorem Slots.put {w : World} {A : List (Option RI)} {t : List V} {a : Act} (h : Slots w A t a.tmps) (dst : Option Tmp) {v : V} {u : Value} (hv : RelV w A v u) : Slots w A (put t dst v) (a.put dst u).tmps := by
  cases dst with
  | none => exact h
  | some d =>
    refine ⟨by simp [Go.Proofs.YtjnhclnnobejgaaE.put, Act.put, h.1], fun i c x h1 h2 => ?_⟩
    simp only [Go.Proofs.YtjnhclnnobejgaaE.put, Act.put] at h1 h2
    rw [List.getElem?_set] at h1
    rw [Array.getElem?_setIfInBounds] at h2
    by_cases hd : d = i
    · subst hd
      simp only [if_true] at h1 h2
      split at h1
      · rename_i hlt
        rw [if_pos (by rw [← h.1]; exact hlt)] at h2
        injection h1 with h1; injection h2 with h2
        subst h1; subst h2; exact hv
      · simp at h1
    · rw [if_neg hd] at h1 h2
      exact h.2 i c x h1 h2

omit B in
omit DW in
theorem put_defers (a : Act) (dst : Option Tmp) (u : Value) : (a.put dst u).defers = a.defers := by cases dst <;> rfl

omit B in
omit DW in
theorem nth_get : ∀ (t : List V) (i : Nat), nth t i ≠ .dead → t[i]? = some (nth t i)
  | [], i, h => absurd (by rfl) h
  | c :: t, 0, _ => rfl
  | c :: t, i + 1, h => by simpa [nth] using nth_get t i (by simpa [nth] using h)

omit DW in
theorem want_sound {w : World} {A : List (Option RI)} {t : List V} {a : Act} (hS : Slots w A t a.tmps) {ops : Array Oper} {o : Oper} {yes no : Option R} (h : wantV ops.toList t o yes no = some r) :
    (Region.wanted o (yielded ops a.tmps) = true ∧ yes = some r) ∨ (Region.wanted o (yielded ops a.tmps) = false ∧ no = some r) := by
  unfold wantV at h
  split at h
  · rename_i hg; exact .inl ⟨by simp [Region.wanted, hg], h⟩
  · rename_i j want hg
    split at h
    case h_2 => simp at h
    rename_i d hd
    have hdst : (ops[j]?).bind (·.dst) = some d := by
      unfold dstOf at hd
      split at hd
      · rename_i o' ho'
        have : ops[j]? = some o' := by simpa using ho'
        rw [this]; exact hd
      · simp at hd
    have hy : ∀ (c : V), nth t d = c → c ≠ .dead → ∃ u, a.tmps[d]? = some u ∧ RelV w A c u := by
      intro c hc hne
      subst hc
      have h1 := nth_get t d hne
      have hlt : d < a.tmps.size := by rw [← hS.1]; exact (List.getElem?_eq_some_iff.mp h1).1
      exact ⟨a.tmps[d], by simp [hlt], hS.2 d _ _ h1 (by simp [hlt])⟩
    split at h
    · rename_i q hq
      obtain ⟨u, h1, h2⟩ := hy _ hq (by simp)
      have := h2.lit_inv
      subst this
      have hyd : yielded ops a.tmps j = some q := by simp [yielded, hdst, h1]
      split at h
      · split at h
        · exact .inl ⟨by simp [Region.wanted, hg, hyd], h⟩
        · exact .inr ⟨by simp [Region.wanted, hg, hyd], h⟩
      · split at h
        · exact .inr ⟨by simp [Region.wanted, hg, hyd], h⟩
        · exact .inl ⟨by simp [Region.wanted, hg, hyd], h⟩
    · rename_i hq
      obtain ⟨u, h1, h2⟩ := hy _ hq (by simp)
      cases h2 with
      | tup _ vs hn _ =>
        have hyd : yielded ops a.tmps j = none := by simp [yielded, hdst, h1]
        exact .inr ⟨by simp [Region.wanted, hg, hyd], h⟩
    · simp at h

theorem opAll_ok (hE : EnvOK E P) (hok : CallOK P call) {w : World} {A : List (Option RI)} {F : Fo} {t : List V} {a : Act} {o : Oper} {k : V → List V → Fo → Option R} (hR : Roots w A F) (hS : Slots w A t a.tmps)
    (h : opAll E call o t F k = some r) : OpOK P w A a o k r := by
  unfold opAll at h
  split at h
  · exact opQ_ok hE hR hS h
  · exact opE_ok hE hR hS h
  · split at h
    · rename_i c ho; exact opC_ok hE hok hR hS ho h
    · simp at h

omit DW in
theorem skip_rel (w : World) (A : List (Option RI)) : RelV w A (.tup []) undef := .tup [] #[] rfl (fun i c v h => by simp at h)

theorem runOps_sound (hE : EnvOK E P) (hok : CallOK P call) {m : Nat} {ops : Array Oper} {k : List V → Fo → Option R} {Q : Exit → Act → World → Prop} : ∀ (l : List Oper) (i : Nat) (t : List V) (F : Fo) (A : List (Option RI)) (a : Act) (w : World),
    (∀ j, l[j]? = ops[i + j]?) → runOps E call ops.toList l t F k = some r → m ≤ A.length → Roots w A F → Slots w A t a.tmps → a.defers = [] →
    (∀ t' F' A' a' w', k t' F' = some r → Roots w' A' F' → Slots w' A' t' a'.tmps → a'.defers = [] → Step A w w' → PG m A A' w → Q .normal a' w') →
    wpOps P ops Q (List.range' i l.length) a w
  | [], i, t, F, A, a, w, hl, h, hm, hR, hS, hd, hQ => hQ t F A a w (by rw [runOps] at h; exact h) hR hS hd (.refl _ _) (.refl hm _)
  | o :: l, i, t, F, A, a, w, hl, h, hm, hR, hS, hd, hQ => by
    have ho : ops[i]? = some o := by simpa using (hl 0).symm
    have hl' : ∀ j, l[j]? = ops[(i + 1) + j]? := fun j => by
      have := hl (j + 1)
      rw [List.getElem?_cons_succ] at this
      rw [this]; congr 1; omega
    simp only [List.length_cons, List.range'_succ, wpOps, ho]
    simp only [runOps, putK_eq, spine_eq] at h
    rcases want_sound hS h with ⟨hw, h1⟩ | ⟨hw, h1⟩
    · simp only [hw, if_true]
      refine .inl (opAll_ok hE hok hR hS h1 _ _ (fun v u t' F' A' w' h2 hR' hS' hv hst hgr hn => ?_))
      refine runOps_sound hE hok l (i + 1) (put t' o.dst v) F' A' (a.put o.dst u) w' hl' h2 (Nat.le_trans hm hgr.len) hR' (hS'.put o.dst hv) (by rw [put_defers]; exact hd) ?_
      intro t2 F2 A2 a2 w2 g1 g3 g4 g5 g6 g7
      exact hQ t2 F2 A2 a2 w2 g1 g3 g4 g5 (hst.trans' g6 (fun b hb => hgr.own b hb)) ((PG.of hm hgr hn).trans g7 hst.size)
    · simp only [hw, Bool.false_eq_true, if_false]
      exact runOps_sound hE hok l (i + 1) (put t o.dst (.tup [])) F A (a.put o.dst undef) w hl' h1 hm hR (hS.put o.dst (skip_rel w A)) (by rw [put_defers]; exact hd) hQ

end
end Go.Proofs.YtjnhclnnobejgaaE

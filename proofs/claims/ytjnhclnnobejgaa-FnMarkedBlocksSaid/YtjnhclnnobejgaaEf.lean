/- The engine, sixth part: how the relation between data and memory lives on; conditions: none. -/
import Derived.Test.YtjnhclnnobejgaaEe
namespace Go.Proofs.YtjnhclnnobejgaaE
open Go.RowKit
set_option linter.unusedVariables false
variable [DW : Drw]
variable [Bad]
set_option linter.unusedSimpArgs false

omit [Bad] in
omit DW in
theorem Grows.refl (A : List (Option RI)) (w : World) : Grows A A w := ⟨Nat.le_refl _, fun r x h => .inl h, fun b h => .inl h⟩
omit [Bad] in
omit DW in
theorem Grows.trans {A B C : List (Option RI)} {w w' : World} (h : Grows A B w) (k : Grows B C w') (hw : w.heap.size ≤ w'.heap.size) (hn : ∀ (r : Nat), B[r]? = some none → C[r]? = some none) : Grows A C w := by
  refine ⟨Nat.le_trans h.len k.len, fun r x hx => ?_, fun b hb => ?_⟩
  · rcases h.old r x hx with h1 | h1
    · exact k.old r x h1
    · exact .inr (hn r h1)
  · rcases k.own b hb with h1 | h1
    · exact h.own b h1
    · exact .inr (Nat.le_trans hw h1)

omit DW in
theorem Slots.mono {w w' : World} {A A' : List (Option RI)} {t : List V} {tm : Array Value} (h : Slots w A t tm) (hw : ∀ b, Free A b → b < w.heap.size → w'.heap[b]? = w.heap[b]?)
    (hS : ∀ b, Free A b → b < w.heap.size → Free A' b) (hA : ∀ (r : Nat) (x : RI), A[r]? = some (some x) → A'[r]? = some (some x)) : Slots w' A' t tm :=
  ⟨h.1, fun i c v h1 h2 => (h.2 i c v h1 h2).mono hw hS hA⟩

omit DW in
theorem RelL.mono {w w' : World} {A A' : List (Option RI)} {cs : List V} {vs : List Value} (h : RelL w A cs vs) (hw : ∀ b, Free A b → b < w.heap.size → w'.heap[b]? = w.heap[b]?)
    (hS : ∀ b, Free A b → b < w.heap.size → Free A' b) (hA : ∀ (r : Nat) (x : RI), A[r]? = some (some x) → A'[r]? = some (some x)) : RelL w' A' cs vs :=
  ⟨h.1, fun i c v h1 h2 => (h.2 i c v h1 h2).mono hw hS hA⟩

omit [Bad] in
omit DW in
theorem owns_kept {w w' : World} {base : Nat} {e : TypeId} {es n : Nat} {v : Value} {xs : List Value} (h : ownsB w base e es v n xs) (hb : ∀ b, v.ownBlock = some b → w'.heap[b]? = w.heap[b]?) : ownsB w' base e es v n xs := by
  refine ⟨h.1, ?_⟩
  rcases h.2 with h1 | ⟨g, cap, cur, rfl, hg, ⟨fz, hh, hmk⟩, hr⟩
  · exact .inl h1
  · exact .inr ⟨g, cap, cur, rfl, hg, ⟨fz, by rw [hb g rfl]; exact hh, hmk⟩, hr⟩

omit [Bad] in
omit DW in
theorem NOwn.mono {w w' : World} {S S' : Nat → Prop} {e2 : TypeId} {es2 : Nat} {rws : List (List D)} {u : Value} (h : NOwn w S e2 es2 rws u) (hw : ∀ b, S b → b < w.heap.size → w'.heap[b]? = w.heap[b]?)
    (hS : ∀ b, S b → b < w.heap.size → S' b) (hb : ∀ b, u.ownBlock = some b → w'.heap[b]? = w.heap[b]?) : NOwn w' S' e2 es2 rws u := by
  obtain ⟨h1, ys, h2, h3⟩ := h
  exact ⟨h1, ys, owns_kept h2 hb, h3.mono hw hS⟩
omit [Bad] in
omit DW in
theorem NstRel.mono {w w' : World} {S S' : Nat → Prop} {v : Value} {T : NT} {n : Nat} {vs : List Value} {rows : List (List D)} (h : NstRel w S v T n vs rows) (hw : ∀ b, S b → b < w.heap.size → w'.heap[b]? = w.heap[b]?)
    (hS : ∀ b, S b → b < w.heap.size → S' b) (hb : ∀ b, (RI.nst v T n vs).has b → w'.heap[b]? = w.heap[b]?) : NstRel w' S' v T n vs rows := by
  obtain ⟨xs, h1, h2⟩ := h.rep
  refine ⟨h.c2, h.es2, h.le, h.vl, h.len, ⟨xs, owns_kept h1 (fun b h => hb b (.inl h)), fun i row hi => ?_⟩, h.dis⟩
  obtain ⟨⟨rws, u, u', g1, g2, g3, g4⟩, g5⟩ := h2 i row hi
  refine ⟨⟨rws, u, u', g1, g2, g3, ?_⟩, fun j x y hj hx hy => (g5 j x y hj hx hy).mono hw hS⟩
  rcases g4 with ⟨h3, h4⟩ | ⟨h3, h4⟩
  · obtain ⟨hs, rw0, he0, h4⟩ := h4
    exact .inl ⟨h3, hs, rw0, he0, h4.mono hw hS (fun b hu => hb b (.inr ⟨i, u, h3, g2, hu⟩))⟩
  · exact .inr ⟨h3, h4.mono hw hS⟩

omit DW in
theorem RootRel.mono {w w' : World} {A A' : List (Option RI)} {ri : RI} {R : Root} (h : RootRel w A ri R) (hw : ∀ b, Free A b → b < w.heap.size → w'.heap[b]? = w.heap[b]?)
    (hS : ∀ b, Free A b → b < w.heap.size → Free A' b) (hA : ∀ (r : Nat) (x : RI), A[r]? = some (some x) → A'[r]? = some (some x)) (hb : ∀ b, ri.has b → w'.heap[b]? = w.heap[b]?) : RootRel w' A' ri R := by
  cases ri with
  | arr v e es =>
    cases R with
    | arr e' es' rows =>
      obtain ⟨h0, h00, h1, h2, xs, h3, h4⟩ := h
      exact ⟨h0, h00, h1, h2, xs, owns_kept h3 hb, h4.mono hw hS⟩
    | box cs => exact h.elim
    | mp K ents => exact h.elim
    | nst => exact h.elim
  | nst v T n vs =>
    cases R with
    | arr => exact h.elim
    | box => exact h.elim
    | mp => exact h.elim
    | nst T' n' rows =>
      obtain ⟨h0, h00, h1⟩ := h
      exact ⟨h0, h00, h1.mono hw hS hb⟩
  | box g =>
    cases R with
    | arr e' es' rows => exact h.elim
    | box cs =>
      obtain ⟨cells, e, h1, h2⟩ := h
      exact ⟨cells, e, by rw [hb g rfl]; exact h1, h2.mono hw hS hA⟩
    | mp K ents =>
      obtain ⟨es, clock, h1, h2⟩ := h
      exact ⟨es, clock, by rw [hb g rfl]; exact h1, h2.mono hw hS⟩
    | nst => exact h.elim

omit [Bad] in
omit DW in
theorem own_append {A : List (Option RI)} {ri : RI} {b : Nat} (h : Own (A ++ [some ri]) b) : Own A b ∨ ri.has b := by
  obtain ⟨r, x, h1, h2⟩ := h
  by_cases hr : r < A.length
  · rw [List.getElem?_append_left hr] at h1; exact .inl ⟨r, x, h1, h2⟩
  · rw [List.getElem?_append_right (by omega)] at h1
    have : r - A.length = 0 := by
      have := (List.getElem?_eq_some_iff.mp h1).1; simp at this; omega
    rw [this] at h1
    simp at h1
    subst h1; exact .inr h2
omit [Bad] in
omit DW in
theorem own_append_left {A : List (Option RI)} {ri : RI} {b : Nat} (h : Own A b) : Own (A ++ [some ri]) b := by
  obtain ⟨r, x, h1, h2⟩ := h
  exact ⟨r, x, by rw [List.getElem?_append_left (List.getElem?_eq_some_iff.mp h1).1]; exact h1, h2⟩
omit [Bad] in
omit DW in
theorem get_append {α : Type} {A : List α} {x : α} {r : Nat} {y : α} (h : A[r]? = some y) : (A ++ [x])[r]? = some y := by
  rw [List.getElem?_append_left (List.getElem?_eq_some_iff.mp h).1]; exact h

/-- A new root: nothing of the old turns. -/
theorem Roots.grow {w w' : World} {A : List (Option RI)} {F : Fo} (h : Roots w A F) (hw : Below w.heap.size w w') {ri : RI} {R : Root}
    (hb : ∀ b, ri.has b → w.heap.size ≤ b ∧ b < w'.heap.size) (hR : RootRel w' (A ++ [some ri]) ri R) : Roots w' (A ++ [some ri]) (F ++ [some R]) := by
  have free : ∀ b, Free A b → b < w.heap.size → Free (A ++ [some ri]) b := by
    refine fun b hf hlt => ⟨fun ho => ?_, hf.2⟩
    rcases own_append ho with h1 | h1
    · exact hf.1 h1
    · have := (hb b h1).1; omega
  have same : ∀ b, b < w.heap.size → w'.heap[b]? = w.heap[b]? := fun b hb => hw.block b hb
  refine ⟨by simp [h.len], fun r s x y b hx hy hxb hyb => ?_, fun r R' hr => ?_, fun r hr => ?_, fun b ho => ?_, fun b ho => ?_, fun b ho => ?_⟩
  · by_cases h1 : r < A.length <;> by_cases h2 : s < A.length
    · rw [List.getElem?_append_left h1] at hx
      rw [List.getElem?_append_left h2] at hy
      exact h.inj r s x y b hx hy hxb hyb
    · rw [List.getElem?_append_left h1] at hx
      rw [List.getElem?_append_right (by omega)] at hy
      have hs : s - A.length = 0 := by
        have := (List.getElem?_eq_some_iff.mp hy).1; simp at this; omega
      rw [hs] at hy
      simp at hy
      subst hy
      have := h.lt b ⟨r, x, hx, hxb⟩
      have := (hb b hyb).1
      omega
    · rw [List.getElem?_append_left h2] at hy
      rw [List.getElem?_append_right (by omega)] at hx
      have hs : r - A.length = 0 := by
        have := (List.getElem?_eq_some_iff.mp hx).1; simp at this; omega
      rw [hs] at hx
      simp at hx
      subst hx
      have := h.lt b ⟨s, y, hy, hyb⟩
      have := (hb b hxb).1
      omega
    · have g1 := (List.getElem?_eq_some_iff.mp hx).1
      have g2 := (List.getElem?_eq_some_iff.mp hy).1
      simp at g1 g2
      omega
  · by_cases h1 : r < F.length
    · rw [List.getElem?_append_left h1] at hr
      obtain ⟨x, g1, g2⟩ := h.rel r R' hr
      refine ⟨x, get_append g1, g2.mono (fun b _ hb => same b hb) free (fun r x hx => get_append hx) (fun b hbx => same b (h.lt b ⟨r, x, g1, hbx⟩))⟩
    · rw [List.getElem?_append_right (by omega)] at hr
      have hs : r - F.length = 0 := by
        have := (List.getElem?_eq_some_iff.mp hr).1; simp at this; omega
      rw [hs] at hr
      simp at hr
      subst hr
      have : r = A.length := by rw [h.len]; omega
      subst this
      exact ⟨ri, by simp, hR⟩
  · by_cases h1 : r < F.length
    · rw [List.getElem?_append_left h1] at hr; exact get_append (h.gone r hr)
    · rw [List.getElem?_append_right (by omega)] at hr
      have hs : r - F.length = 0 := by
        have := (List.getElem?_eq_some_iff.mp hr).1; simp at this; omega
      rw [hs] at hr
      simp at hr
  · rcases own_append ho with h1 | h1
    · have := h.lt b h1; have := hw.size; omega
    · exact (hb b h1).2
  · rcases own_append ho with h1 | h1
    · exact h.ok b h1
    · intro hbad; have := h.bad b hbad; have := (hb b h1).1; omega
  · exact Nat.lt_of_lt_of_le (h.bad b ho) hw.size

omit [Bad] in
omit DW in
theorem Grows.append {A : List (Option RI)} {w : World} {ri : RI} (hb : ∀ b, ri.has b → w.heap.size ≤ b) : Grows A (A ++ [some ri]) w :=
  ⟨by simp, fun r x h => .inl (get_append h), fun b h => (own_append h).imp id (hb b)⟩

omit DW in
theorem free_append {w : World} {A : List (Option RI)} {ri : RI} (hb : ∀ b, ri.has b → w.heap.size ≤ b) : ∀ b, Free A b → b < w.heap.size → Free (A ++ [some ri]) b := by
  refine fun b hf hlt => ⟨fun ho => ?_, hf.2⟩
  rcases own_append ho with h1 | h1
  · exact hf.1 h1
  · have := hb b h1; omega

omit [Bad] in
theorem Step.of_below {A : List (Option RI)} {w w' : World} (h : Below w.heap.size w w') : Step A w w' := ⟨h.drawn, h.os, h.tape, h.output, h.size, fun b hb _ => h.block b hb⟩
omit [Bad] in
theorem Step.trans {A B : List (Option RI)} {w w1 w2 : World} (h : Step A w w1) (k : Step B w1 w2) (g : Grows A B w) : Step A w w2 :=
  ⟨fun s => Nat.le_trans (h.drawn s) (k.drawn s), k.os.trans h.os, k.tape.trans h.tape, k.output.trans h.output, Nat.le_trans h.size k.size, fun b hb hf => by
    rw [k.block b (Nat.lt_of_lt_of_le hb h.size) (fun ho => by
      rcases g.own b ho with h1 | h1
      · exact hf h1
      · omega), h.block b hb hf]⟩

/-! ### References turned -/
omit [Bad] in
omit DW in
theorem subL_eq (sl : Nat → V) (pt : Nat → Nat → Nat → V) (bp : Nat → Nat → V) : ∀ cs, subL sl pt bp cs = cs.map (subV sl pt bp)
  | [] => by simp [subL]
  | c :: cs => by simp [subL, subL_eq sl pt bp cs]

omit DW in
theorem mpOf_rel {w : World} {A : List (Option RI)} {v : V} {g : Nat} (h : RelV w A v (.pointer (some ⟨g, 0, none⟩))) : RelV w A (mpOf v) (.map (some g)) := by
  generalize hu : Value.pointer (some ⟨g, 0, none⟩) = u at h
  cases h with
  | bp r j g' hA =>
    simp only [Value.pointer.injEq, Option.some.injEq, Addr.mk.injEq] at hu
    obtain ⟨rfl, _, _⟩ := hu
    exact .mp _ _ hA
  | _ => exact .dead _
/-- Where a reference to a row with slices goes. -/
def SubN (w : World) (A : List (Option RI)) (c : V) (ri : RI) (v : Value) : Prop := match c with
  | .sl r => match ri with
    | .nst v0 T n vs => ∃ n' vs', A[r]? = some (some (.nst v0 T n' vs')) ∧ ∀ (i : Nat) (u : Value), i < n → vs[i]? = some u → i < n' ∧ vs'[i]? = some u
    | ri => A[r]? = some (some ri)
  | .d x => match ri with
    | .nst _ T n vs => (∃ rows, x = .arr rows) ∧ Rep w (Free A) x v ∧ ∀ (i : Nat) (u : Value), i < n → vs[i]? = some u → ∃ rows row y, x = .arr rows ∧ rows[i]? = some row ∧ row[T.c2]? = some (.arr y) ∧ Rep w (Free A) (.arr y) u
    | _ => False
  | _ => True
omit DW in
theorem subN_of {w : World} {A : List (Option RI)} {r : Nat} {ri : RI} {v : Value} (h : A[r]? = some (some ri)) : SubN w A (.sl r) ri v := by
  cases ri with
  | nst v0 T n vs => exact ⟨n, vs, h, fun _ _ a b => ⟨a, b⟩⟩
  | _ => exact h
omit DW in
theorem onC_rel {w : World} {A : List (Option RI)} {c : V} {v u : Value} {T : NT} {n i : Nat} {vs : List Value} (h : SubN w A c (.nst v T n vs) v) (hi : i < n) (hu : vs[i]? = some u) {u' : Value} (hs : SlOf u u') :
    RelV w A (onC i T.c2 c) u' := by
  cases c with
  | sl r =>
    obtain ⟨n', vs', h1, h2⟩ := h
    exact .ns r i v T n' vs' u h1 (h2 i u hi hu).1 (h2 i u hi hu).2 u' hs
  | d x =>
    obtain ⟨_, _, h2⟩ := h
    obtain ⟨rows, row, y, rfl, h3, h4, h5⟩ := h2 i u hi hu
    simp only [onC, h3, h4]
    exact .d _ _ (h5.slOf hs)
  | _ => exact .dead _
omit DW in
theorem onNs_rel {w : World} {A : List (Option RI)} {c : V} {v : Value} {T : NT} {n : Nat} {vs : List Value} (h : SubN w A c (.nst v T n vs) v) {u : Value} (hs : SlOf v u) : RelV w A (onNs c) u := by
  cases c with
  | sl r =>
    obtain ⟨n', vs', h1, _⟩ := h
    exact .nsl r v T n' vs' h1 u hs
  | d x =>
    obtain ⟨⟨rows, rfl⟩, h1, _⟩ := h
    exact .d _ _ (h1.slOf hs)
  | _ => exact .dead _
omit DW in
theorem onN_rel {w : World} {A : List (Option RI)} {c : V} {v0 v u : Value} {T : NT} {n : Nat} {vs : List Value} {f : Nat → V} (h : SubN w A c (.nst v0 T n vs) v)
    (hf : ∀ r n' vs', A[r]? = some (some (.nst v0 T n' vs')) → (∀ (i : Nat) (u : Value), i < n → vs[i]? = some u → i < n' ∧ vs'[i]? = some u) → RelV w A (f r) u) : RelV w A (onN f c) u := by
  cases c with
  | sl r =>
    obtain ⟨n', vs', h1, h2⟩ := h
    exact hf r n' vs' h1 h2
  | _ => exact .dead _
omit DW in
theorem subN_kill {w' : World} {A' : List (Option RI)} {r r' : Nat} {ri : RI} {v : Value} (hA : r ≠ r' → A'[r']? = some (some ri)) : SubN w' A' (killS r r') ri v := by
  unfold killS
  split
  · trivial
  · rename_i hb
    exact subN_of (hA (fun e => by subst e; simp at hb))
omit DW in
theorem subN_frz {w' : World} {A' : List (Option RI)} {r r' : Nat} {rows : List (List D)} {ri : RI} {v : Value} (hr : r ≠ r') (hA : A'[r']? = some (some ri)) : SubN w' A' (frzS r rows r') ri v := by
  unfold frzS
  split
  · rename_i hb
    exact absurd (Nat.eq_of_beq_eq_true hb) hr
  · exact subN_of hA
omit DW in
/-- The end of a row, as the row's references go. -/
theorem tlOf_rel {w : World} {A : List (Option RI)} {x y : V} {i g n cap es : Nat} (h1 : RelV w A x (.slice (some ⟨g, 0, none⟩) n cap)) (h2 : RelV w A y (.pointer (some ⟨g, 1 * es + 0, none⟩))) (hi : i < n) (hc : n ≤ cap) :
    RelV w A (tlOf i x y) (.slice (some ⟨g, i * es, none⟩) (n - i) (cap - i)) := by
  unfold tlOf
  split
  rotate_left
  · exact .dead _
  rename_i r r'
  split
  rotate_left
  · exact .dead _
  rename_i hb
  have : r = r' := Nat.eq_of_beq_eq_true hb
  subst this
  generalize hu : Value.slice (some ⟨g, 0, none⟩) n cap = u at h1
  generalize hp : Value.pointer (some ⟨g, 1 * es + 0, none⟩) = p at h2
  cases h1 with
  | sl _ v e es' hA _ hv =>
    obtain ⟨_, rfl | ⟨_, q, rfl⟩⟩ := hv
    rotate_left
    · simp only [Value.slice.injEq] at hu; omega
    subst hu
    cases h2 with
    | ptr _ _ _ g' n' cap' es2 e2 hA2 =>
      rw [hA] at hA2
      simp only [Option.some.injEq, RI.arr.injEq, Value.slice.injEq, Addr.mk.injEq, and_true, true_and] at hA2
      obtain ⟨⟨rfl, rfl, rfl⟩, rfl, rfl⟩ := hA2
      simp only [Value.pointer.injEq, Option.some.injEq, Addr.mk.injEq, and_true, true_and] at hp
      have : es = es' := by omega
      subst this
      exact .tl r i g n cap es e hA hi hc

omit DW in
theorem sub_rel {w w' : World} {A A' : List (Option RI)} {sl : Nat → V} {pt : Nat → Nat → Nat → V} {bp : Nat → Nat → V}
    (hw : ∀ b, Free A b → b < w.heap.size → w'.heap[b]? = w.heap[b]?) (hS : ∀ b, Free A b → b < w.heap.size → Free A' b)
    (h1 : ∀ r v e es, A[r]? = some (some (.arr v e es)) → ∀ u, SlOf v u → RelV w' A' (sl r) u)
    (h2 : ∀ r i j g n cap es e, A[r]? = some (some (.arr (.slice (some ⟨g, 0, none⟩) n cap) e es)) → RelV w' A' (pt r i j) (.pointer (some ⟨g, i * es + j, none⟩)))
    (h3 : ∀ r j g, A[r]? = some (some (.box g)) → RelV w' A' (bp r j) (.pointer (some ⟨g, j, none⟩)))
    (h4 : ∀ r v T n vs, A[r]? = some (some (.nst v T n vs)) → SubN w' A' (sl r) (.nst v T n vs) v) {c : V} {v : Value} (h : RelV w A c v) : RelV w' A' (subV sl pt bp c) v := by
  induction h with
  | d x v h => rw [subV]; exact .d x v (h.mono hw hS)
  | agg cs vs hn h ih =>
    rw [subV, subL_eq]
    refine .agg _ vs (by simpa using hn) (fun i c v hc hv => ?_)
    rw [List.getElem?_map, Option.map_eq_some_iff] at hc
    obtain ⟨c0, hc0, rfl⟩ := hc
    exact ih i c0 v hc0 hv
  | tup cs vs hn h ih =>
    rw [subV, subL_eq]
    refine .tup _ vs (by simpa using hn) (fun i c v hc hv => ?_)
    rw [List.getElem?_map, Option.map_eq_some_iff] at hc
    obtain ⟨c0, hc0, rfl⟩ := hc
    exact ih i c0 v hc0 hv
  | bp r j g h => rw [subV]; exact h3 r j g h
  | ptr r i j g n cap es e h => rw [subV]; exact h2 r i j g n cap es e h
  | sl r v e es h u hv => rw [subV]; exact h1 r v e es h u hv
  | e0 p => rw [subV]; exact .e0 p
  | lst T cs vs g hg hf k1 hn h ih =>
    rw [subV, subL_eq]
    have hlt := (Array.getElem?_eq_some_iff.mp hg).1
    refine .lst T _ vs g (by rw [hw g hf hlt]; exact hg) (hS g hf hlt) k1 (by simpa using hn) (fun i c v hc hv => ?_)
    rw [List.getElem?_map, Option.map_eq_some_iff] at hc
    obtain ⟨c0, hc0, rfl⟩ := hc
    exact ih i c0 v hc0 hv
  | mp r g h => rw [subV]; exact mpOf_rel (h3 r 0 g h)
  | rp rows i j b o es cap h hes => rw [subV]; exact .rp rows i j b o es cap (h.mono hw hS) hes
  | clo f cs vs hn h ih =>
    rw [subV, subL_eq]
    refine .clo f _ vs (by simpa using hn) (fun i c v hc hv => ?_)
    rw [List.getElem?_map, Option.map_eq_some_iff] at hc
    obtain ⟨c0, hc0, rfl⟩ := hc
    exact ih i c0 v hc0 hv
  | tl r i g n cap es e h hi hc => rw [subV]; exact tlOf_rel (h1 r _ e es h _ (.of _ _ _)) (h2 r 1 0 g n cap es e h) hi hc
  | nsl r v T n vs h u hs => rw [subV]; exact onNs_rel (h4 r v T n vs h) hs
  | nptr r i j g m cap T n vs h => rw [subV]; exact onN_rel (h4 r _ T n vs h) fun r' n' vs' hr _ => .nptr r' i j g m cap T n' vs' hr
  | ns r i v T n vs u0 h hi hu u hs => rw [subV]; exact onC_rel (h4 r v T n vs h) hi hu hs
  | np r i k c v T n vs g o m cap h hi hu => rw [subV]; exact onN_rel (h4 r v T n vs h) fun r' n' vs' hr hx => .np r' i k c v T n' vs' g o m cap hr (hx i _ hi hu).1 (hx i _ hi hu).2
  | nt r i m' v T n vs p m cap h hi hu hm => rw [subV]; exact onN_rel (h4 r v T n vs h) fun r' n' vs' hr hx => .nt r' i m' v T n' vs' p m cap hr (hx i _ hi hu).1 (hx i _ hi hu).2 hm
  | dead v => rw [subV]; exact .dead v

omit [Bad] in
omit DW in
/-- Root r is let go. -/
theorem own_drop {A : List (Option RI)} {r b : Nat} (h : Own (A.set r none) b) : Own A b := by
  obtain ⟨s, x, h1, h2⟩ := h
  by_cases hs : s = r
  · subst hs
    rw [List.getElem?_set] at h1
    simp only [if_true] at h1
    split at h1 <;> simp at h1
  · rw [List.getElem?_set_ne (fun e => hs e.symm)] at h1; exact ⟨s, x, h1, h2⟩
omit DW in
theorem free_drop {A : List (Option RI)} {r b : Nat} (h : Free A b) : Free (A.set r none) b := ⟨fun ho => h.1 (own_drop ho), h.2⟩
omit [Bad] in
omit DW in
theorem get_drop {A : List (Option RI)} {r s : Nat} {x : RI} (h : A[s]? = some (some x)) (hs : s ≠ r) : (A.set r none)[s]? = some (some x) := by
  rw [List.getElem?_set_ne (fun e => hs e.symm)]; exact h

omit [Bad] in
omit DW in
theorem Grows.drop (A : List (Option RI)) (w : World) (r : Nat) : Grows A (A.set r none) w := by
  refine ⟨by simp, fun s x h => ?_, fun b h => .inl (own_drop h)⟩
  by_cases hs : s = r
  · subst hs
    refine .inr ?_
    rw [List.getElem?_set, if_pos rfl, if_pos (List.getElem?_eq_some_iff.mp h).1]
  · exact .inl (get_drop h hs)

omit DW in
/-- What the root's block held is plain data now. -/
theorem frozen_rep {w : World} {A : List (Option RI)} {r : Nat} {v : Value} {e : TypeId} {es : Nat} {rows : List (List D)} {e' : TypeId} {es' : Nat} (hA : A[r]? = some (some (.arr v e es)))
    (hinj : ∀ (s : Nat) (y : RI) (b : Nat), A[s]? = some (some y) → y.has b → v.ownBlock = some b → s = r)
    (hbad : ∀ b, v.ownBlock = some b → ¬ Bad.bad b) (h : RootRel w A (.arr v e es) (.arr e' es' rows)) : Rep w (Free (A.set r none)) (.arr rows) v := by
  obtain ⟨h0, h00, h1, h2, xs, h3, h4⟩ := h
  rcases h3.2 with ⟨rfl, hz⟩ | ⟨g, cap, cur, rfl, _, ⟨fz, hh, hmk⟩, hnc, hcm, hcs, htake⟩
  · have : rows = [] := List.eq_nil_of_length_eq_zero hz
    subst this
    exact .empty _ _ (fun _ => rfl)
  · have hx : xs.length = rows.length * es := h3.1
    refine .arr rows g 0 es cap (fun i => xs.getD i undef) ?_ h1 h2 (Nat.le_trans hnc hcm) hnc (fun i hi => ?_) (fun i x hi => ?_)
    · refine ⟨?_, hbad g rfl⟩
      rintro ⟨s, y, g1, g2⟩
      by_cases hs : s = r
      · subst hs
        rw [List.getElem?_set, if_pos rfl] at g1
        split at g1 <;> simp at g1
      · rw [List.getElem?_set_ne (fun e => hs e.symm)] at g1
        exact hs (hinj s y g g1 g2 rfl)
    · have := h3.cells (g := g) rfl i (xs.getD i undef) (by rw [List.getD_eq_getElem?_getD, List.getElem?_eq_getElem (by omega)]; rfl)
      rw [add_at] at this
      exact this
    · have hlt : i < rows.flatten.length := (List.getElem?_eq_some_iff.mp hi).1
      rw [flat_len rows h2] at hlt
      have := h4.2 i x (xs.getD i undef) hi (by rw [List.getD_eq_getElem?_getD, List.getElem?_eq_getElem (by omega)]; rfl)
      exact this.mono (fun _ _ _ => rfl) (fun b hb _ => free_drop hb)

omit [Bad] in
omit DW in
theorem subR_arr (sl : Nat → V) (pt : Nat → Nat → Nat → V) (bp : Nat → Nat → V) (e : TypeId) (es : Nat) (rows : List (List D)) : subR sl pt bp (some (.arr e es rows)) = some (.arr e es rows) := rfl

omit DW in
/-- Root r goes, what led to it is turned. -/
theorem Roots.drop {w : World} {A : List (Option RI)} {F : Fo} (h : Roots w A F) {r : Nat} {x : RI} (hr : A[r]? = some (some x)) {sl : Nat → V} {pt : Nat → Nat → Nat → V} {bp : Nat → Nat → V}
    (hsub : ∀ {c : V} {v : Value}, RelV w A c v → RelV w (A.set r none) (subV sl pt bp c) v) : Roots w (A.set r none) ((mapO (subR sl pt bp) F).set r none) := by
  rw [mapO_eq]
  have hlt : r < F.length := by rw [← h.len]; exact (List.getElem?_eq_some_iff.mp hr).1
  refine ⟨by simp [h.len], fun s s' y y' b h1 h2 h3 h4 => ?_, fun s R hs => ?_, fun s hs => ?_, fun b ho => h.lt b (own_drop ho), fun b ho => h.ok b (own_drop ho), h.bad⟩
  · have g : ∀ {s : Nat} {y : RI}, (A.set r none)[s]? = some (some y) → A[s]? = some (some y) := by
      intro s y h1
      by_cases hs : s = r
      · subst hs
        rw [List.getElem?_set, if_pos rfl] at h1
        split at h1 <;> simp at h1
      · rw [List.getElem?_set_ne (fun e => hs e.symm)] at h1; exact h1
    exact h.inj s s' y y' b (g h1) (g h2) h3 h4
  · by_cases hsr : s = r
    · subst hsr
      rw [List.getElem?_set, if_pos rfl] at hs
      split at hs <;> simp at hs
    · rw [List.getElem?_set_ne (fun e => hsr e.symm), List.getElem?_map, Option.map_eq_some_iff] at hs
      obtain ⟨R0, h1, h2⟩ := hs
      cases R0 with
      | none => simp [subR] at h2
      | some R0 =>
        obtain ⟨ri, g1, g2⟩ := h.rel s R0 h1
        refine ⟨ri, get_drop g1 hsr, ?_⟩
        cases R0 with
        | arr e es1 rows =>
          simp only [subR] at h2
          injection h2 with h2
          subst h2
          cases ri with
          | box g => exact g2.elim
          | nst => exact g2.elim
          | arr v e' es =>
            obtain ⟨k0, k00, k1, k2, xs, k3, k4⟩ := g2
            exact ⟨k0, k00, k1, k2, xs, k3, k4.mono (fun _ _ _ => rfl) (fun b hb _ => free_drop hb)⟩
        | box cs =>
          simp only [subR] at h2
          injection h2 with h2
          subst h2
          cases ri with
          | arr v e es => exact g2.elim
          | nst => exact g2.elim
          | box g =>
            obtain ⟨cells, e, e1, e2⟩ := g2
            refine ⟨cells, e, e1, by rw [subL_eq]; simpa using e2.1, fun i c v hc hv => ?_⟩
            rw [subL_eq, List.getElem?_map, Option.map_eq_some_iff] at hc
            obtain ⟨c0, hc0, rfl⟩ := hc
            exact hsub (e2.2 i c0 v hc0 hv)
        | mp K ents =>
          simp only [subR] at h2
          injection h2 with h2
          subst h2
          cases ri with
          | arr v e es => exact g2.elim
          | box g =>
            obtain ⟨es, clock, e1, e2⟩ := g2
            exact ⟨es, clock, e1, e2.mono (fun _ _ _ => rfl) (fun b hb _ => free_drop hb)⟩
          | nst => exact g2.elim
        | nst T n rows =>
          simp only [subR] at h2
          injection h2 with h2
          subst h2
          cases ri with
          | arr v e es => exact g2.elim
          | box g => exact g2.elim
          | nst v T' n' vs =>
            obtain ⟨k0, k1, k2⟩ := g2
            exact ⟨k0, k1, k2.mono (fun _ _ _ => rfl) (fun b hb _ => free_drop hb) (fun _ _ => rfl)⟩
  · by_cases hsr : s = r
    · subst hsr
      rw [List.getElem?_set, if_pos rfl, if_pos (by rw [h.len]; exact hlt)]
    · rw [List.getElem?_set_ne (fun e => hsr e.symm), List.getElem?_map, Option.map_eq_some_iff] at hs
      obtain ⟨R0, h1, h2⟩ := hs
      cases R0 with
      | none =>
        rw [List.getElem?_set_ne (fun e => hsr e.symm)]; exact h.gone s h1
      | some R0 => cases R0 <;> simp [subR] at h2

omit DW in
theorem frz_all {w : World} {A : List (Option RI)} {F : Fo} (h : Roots w A F) {r : Nat} {e : TypeId} {es0 : Nat} {rows : List (List D)} (hr : root F r = some (.arr e es0 rows)) :
    ∃ v es, A[r]? = some (some (.arr v e es)) ∧ Rep w (Free (A.set r none)) (.arr rows) v ∧ Roots w (A.set r none) (frzF r rows F) ∧
      (∀ {c : V} {u : Value}, RelV w A c u → RelV w (A.set r none) (subV (frzS r rows) (killP r) .bp c) u) := by
  obtain ⟨ri, h1, h2⟩ := h.rel r _ (root_get hr)
  cases ri with
  | box g => exact h2.elim
  | nst => exact h2.elim
  | arr v e' es =>
    have he : e = e' := h2.1
    subst he
    have hrep := frozen_rep h1 (fun s y b g1 g2 g3 => (h.inj s r y _ b g1 h1 g2 g3)) (fun b hb => h.ok b ⟨r, _, h1, hb⟩) h2
    have hsub : ∀ {c : V} {u : Value}, RelV w A c u → RelV w (A.set r none) (subV (frzS r rows) (killP r) .bp c) u := by
      intro c u hc
      refine sub_rel (fun _ _ _ => rfl) (fun b hb _ => free_drop hb) (fun r' v' e' es' hA u' hv' => ?_) (fun r' i j g n cap es' e' hA => ?_) (fun r' j g hA => ?_) (fun r' v' T n vs hA => ?_) hc
      · unfold frzS
        split
        · rename_i hb
          have : r = r' := Nat.eq_of_beq_eq_true hb
          subst this
          rw [h1] at hA
          injection hA with hA; injection hA with hA; injection hA with hA _ _
          subst hA
          exact .d _ _ (hrep.slOf hv')
        · rename_i hb
          exact .sl r' v' e' es' (get_drop hA (fun e => by subst e; simp at hb)) u' hv'
      · unfold killP
        split
        · exact .dead _
        · rename_i hb
          exact .ptr r' i j g n cap es' e' (get_drop hA (fun e => by subst e; simp at hb))
      · exact .bp r' j g (get_drop hA (fun e => by subst e; rw [h1] at hA; simp at hA))
      · exact subN_frz (fun e => by subst e; rw [h1] at hA; simp at hA) (get_drop hA (fun e => by subst e; rw [h1] at hA; simp at hA))
    exact ⟨v, es, h1, hrep, h.drop h1 hsub, hsub⟩

omit DW in
theorem kill_all {w : World} {A : List (Option RI)} {F : Fo} (h : Roots w A F) {r : Nat} {e : TypeId} {es0 : Nat} {rows : List (List D)} (hr : root F r = some (.arr e es0 rows)) :
    Roots w (A.set r none) (killF r F) ∧ (∀ {c : V} {u : Value}, RelV w A c u → RelV w (A.set r none) (subV (killS r) (killP r) .bp c) u) := by
  obtain ⟨ri, h1, h2⟩ := h.rel r _ (root_get hr)
  cases ri with
  | box g => exact h2.elim
  | nst => exact h2.elim
  | arr v e' es =>
    have hsub : ∀ {c : V} {u : Value}, RelV w A c u → RelV w (A.set r none) (subV (killS r) (killP r) .bp c) u := by
      intro c u hc
      refine sub_rel (fun _ _ _ => rfl) (fun b hb _ => free_drop hb) (fun r' v' e' es' hA u' hv' => ?_) (fun r' i j g n cap es' e' hA => ?_) (fun r' j g hA => ?_) (fun r' v' T n vs hA => ?_) hc
      · unfold killS
        split
        · exact .dead _
        · rename_i hb
          exact .sl r' v' e' es' (get_drop hA (fun e => by subst e; simp at hb)) u' hv'
      · unfold killP
        split
        · exact .dead _
        · rename_i hb
          exact .ptr r' i j g n cap es' e' (get_drop hA (fun e => by subst e; simp at hb))
      · exact .bp r' j g (get_drop hA (fun e => by subst e; rw [h1] at hA; simp at hA))
      · exact subN_kill fun hr => get_drop hA fun e => hr e.symm
    exact ⟨h.drop h1 hsub, hsub⟩

omit DW in
theorem Slots.sub {w w' : World} {A A' : List (Option RI)} {t : List V} {tm : Array Value} (h : Slots w A t tm) {sl : Nat → V} {pt : Nat → Nat → Nat → V} {bp : Nat → Nat → V}
    (hsub : ∀ {c : V} {u : Value}, RelV w A c u → RelV w' A' (subV sl pt bp c) u) : Slots w' A' (subL sl pt bp t) tm := by
  refine ⟨by rw [subL_eq]; simpa using h.1, fun i c v h1 h2 => ?_⟩
  rw [subL_eq, List.getElem?_map, Option.map_eq_some_iff] at h1
  obtain ⟨c0, hc0, rfl⟩ := h1
  exact hsub (h.2 i c0 v hc0 h2)

omit DW in
/-- A root is written. -/
theorem Roots.write {w w' : World} {A : List (Option RI)} {F : Fo} (h : Roots w A F) {r : Nat} {ri : RI} {R0 R : Root} (hr : F[r]? = some (some R0)) (hA : A[r]? = some (some ri)) {g : Nat} (hg : ri.has g)
    (hsize : w'.heap.size = w.heap.size) (hw : ∀ b, b ≠ g → w'.heap[b]? = w.heap[b]?) (hR : RootRel w' A ri R) : Roots w' A (F.set r (some R)) := by
  have hfree : ∀ b, Free A b → b < w.heap.size → w'.heap[b]? = w.heap[b]? := fun b hf _ => hw b (fun e => hf.1 ⟨r, ri, hA, by rw [e]; exact hg⟩)
  have hlt : r < F.length := (List.getElem?_eq_some_iff.mp hr).1
  refine ⟨by simp [h.len], h.inj, fun s S hs => ?_, fun s hs => ?_, fun b ho => by rw [hsize]; exact h.lt b ho, h.ok, fun b hb => by rw [hsize]; exact h.bad b hb⟩
  · by_cases hsr : s = r
    · subst hsr
      rw [List.getElem?_set, if_pos rfl, if_pos hlt] at hs
      injection hs with hs; injection hs with hs
      subst hs
      exact ⟨ri, hA, hR⟩
    · rw [List.getElem?_set_ne (fun e => hsr e.symm)] at hs
      obtain ⟨x, g1, g2⟩ := h.rel s S hs
      refine ⟨x, g1, g2.mono hfree (fun _ hb _ => hb) (fun _ _ hx => hx) (fun b hb => hw b (fun e => ?_))⟩
      subst e
      exact hsr (h.inj s r x ri b g1 hA hb hg)
  · by_cases hsr : s = r
    · subst hsr
      rw [List.getElem?_set, if_pos rfl, if_pos hlt] at hs
      injection hs with hs; simp at hs
    · rw [List.getElem?_set_ne (fun e => hsr e.symm)] at hs
      exact h.gone s hs

omit [Bad] in
omit DW in
theorem own_app {A : List (Option RI)} {x : RI} {b : Nat} (h : Own (A ++ [some x]) b) : Own A b ∨ x.has b := own_append h

omit DW in
/-- A root goes, and comes again under a new number, in its old block or in a new one. -/
theorem Roots.renew {w w' : World} {A : List (Option RI)} {F : Fo} (h : Roots w A F) {r : Nat} {x ri : RI} {R : Root} (hr : A[r]? = some (some x)) {sl : Nat → V} {pt : Nat → Nat → Nat → V} {bp : Nat → Nat → V}
    (hw : ∀ b, b < w.heap.size → ¬ x.has b → w'.heap[b]? = w.heap[b]?) (hsize : w.heap.size ≤ w'.heap.size)
    (hblk : ∀ b, ri.has b → (x.has b ∨ w.heap.size ≤ b) ∧ b < w'.heap.size)
    (hsub : ∀ {c : V} {v : Value}, RelV w A c v → RelV w' (A.set r none ++ [some ri]) (subV sl pt bp c) v) (hR : RootRel w' (A.set r none ++ [some ri]) ri R) :
    Roots w' (A.set r none ++ [some ri]) ((mapO (subR sl pt bp) F).set r none ++ [some R]) := by
  rw [mapO_eq]
  have hlA : r < A.length := (List.getElem?_eq_some_iff.mp hr).1
  have hlt : r < F.length := by rw [← h.len]; exact hlA
  have back : ∀ {s : Nat} {y : RI}, (A.set r none)[s]? = some (some y) → A[s]? = some (some y) ∧ s ≠ r := by
    intro s y h1
    by_cases hs : s = r
    · subst hs
      rw [List.getElem?_set, if_pos rfl] at h1
      split at h1 <;> simp at h1
    · rw [List.getElem?_set_ne (fun e => hs e.symm)] at h1; exact ⟨h1, hs⟩
  have split : ∀ {s : Nat} {y : RI}, (A.set r none ++ [some ri])[s]? = some (some y) → (A[s]? = some (some y) ∧ s ≠ r) ∨ (s = A.length ∧ y = ri) := by
    intro s y h1
    by_cases hs : s < A.length
    · rw [List.getElem?_append_left (by simpa using hs)] at h1; exact .inl (back h1)
    · rw [List.getElem?_append_right (by simpa using hs)] at h1
      have h0 : s - (A.set r none).length = 0 := by
        have := (List.getElem?_eq_some_iff.mp h1).1; simp at this; simpa using this
      rw [h0] at h1
      simp at h1 h0
      exact .inr ⟨by omega, h1.symm⟩
  have free : ∀ b, Free A b → b < w.heap.size → Free (A.set r none ++ [some ri]) b := by
    refine fun b hf hlt' => ⟨?_, hf.2⟩
    rintro ⟨s, y, h1, h2⟩
    rcases split h1 with ⟨h3, _⟩ | ⟨_, rfl⟩
    · exact hf.1 ⟨s, y, h3, h2⟩
    · rcases (hblk b h2).1 with h3 | h3
      · exact hf.1 ⟨r, x, hr, h3⟩
      · omega
  have hwf : ∀ b, Free A b → b < w.heap.size → w'.heap[b]? = w.heap[b]? := fun b hf hb => hw b hb (fun e => hf.1 ⟨r, x, hr, e⟩)
  refine ⟨by simp [h.len], fun s s' y y' b h1 h2 h3 h4 => ?_, fun s S hs => ?_, fun s hs => ?_, fun b ho => ?_, fun b ho => ?_, fun b hb => Nat.lt_of_lt_of_le (h.bad b hb) hsize⟩
  · rcases split h1 with ⟨g1, n1⟩ | ⟨rfl, rfl⟩ <;> rcases split h2 with ⟨g2, n2⟩ | ⟨rfl, rfl⟩
    · exact h.inj s s' y y' b g1 g2 h3 h4
    · rcases (hblk b h4).1 with h5 | h5
      · exact absurd (h.inj s r y x b g1 hr h3 h5) n1
      · have := h.lt b ⟨s, y, g1, h3⟩; omega
    · rcases (hblk b h3).1 with h5 | h5
      · exact absurd (h.inj s' r y' x b g2 hr h4 h5) n2
      · have := h.lt b ⟨s', y', g2, h4⟩; omega
    · rfl
  · by_cases hs1 : s < F.length
    · rw [List.getElem?_append_left (by simpa using hs1)] at hs
      by_cases hsr : s = r
      · subst hsr
        rw [List.getElem?_set, if_pos rfl] at hs
        split at hs <;> simp at hs
      · rw [List.getElem?_set_ne (fun e => hsr e.symm), List.getElem?_map, Option.map_eq_some_iff] at hs
        obtain ⟨R0, h1, h2⟩ := hs
        cases R0 with
        | none => simp [subR] at h2
        | some R0 =>
          obtain ⟨y, g1, g2⟩ := h.rel s R0 h1
          have gA : (A.set r none ++ [some ri])[s]? = some (some y) := by
            rw [List.getElem?_append_left (by simpa [h.len] using hs1)]; exact get_drop g1 hsr
          have hblky : ∀ b, y.has b → w'.heap[b]? = w.heap[b]? := fun b hb => hw b (h.lt b ⟨s, y, g1, hb⟩) (fun e => hsr (h.inj s r y x b g1 hr hb e))
          refine ⟨y, gA, ?_⟩
          cases R0 with
          | arr e es1 rows =>
            simp only [subR] at h2
            injection h2 with h2
            subst h2
            cases y with
            | box g => exact g2.elim
            | nst => exact g2.elim
            | arr v e' es =>
              obtain ⟨k0, k00, k1, k2, xs, k3, k4⟩ := g2
              exact ⟨k0, k00, k1, k2, xs, owns_kept k3 hblky, k4.mono hwf free⟩
          | box cs =>
            simp only [subR] at h2
            injection h2 with h2
            subst h2
            cases y with
            | arr v e es => exact g2.elim
            | nst => exact g2.elim
            | box g =>
              obtain ⟨cells, e, e1, e2⟩ := g2
              refine ⟨cells, e, by rw [hblky g rfl]; exact e1, by rw [subL_eq]; simpa using e2.1, fun i c v hc hv => ?_⟩
              rw [subL_eq, List.getElem?_map, Option.map_eq_some_iff] at hc
              obtain ⟨c0, hc0, rfl⟩ := hc
              exact hsub (e2.2 i c0 v hc0 hv)
          | mp K ents =>
            simp only [subR] at h2
            injection h2 with h2
            subst h2
            cases y with
            | arr v e es => exact g2.elim
            | box g =>
              obtain ⟨es, clock, e1, e2⟩ := g2
              exact ⟨es, clock, by rw [hblky g rfl]; exact e1, e2.mono hwf free⟩
            | nst => exact g2.elim
          | nst T n rows =>
            simp only [subR] at h2
            injection h2 with h2
            subst h2
            cases y with
            | arr v e es => exact g2.elim
            | box g => exact g2.elim
            | nst v T' n' vs =>
              obtain ⟨k0, k1, k2⟩ := g2
              exact ⟨k0, k1, k2.mono hwf free hblky⟩
    · rw [List.getElem?_append_right (by simpa using hs1)] at hs
      have h0 : s - ((F.map (subR sl pt bp)).set r none).length = 0 := by
        have := (List.getElem?_eq_some_iff.mp hs).1; simp at this; simpa using this
      rw [h0] at hs
      simp at hs h0
      subst hs
      have : s = A.length := by rw [h.len]; omega
      subst this
      exact ⟨ri, by simp, hR⟩
  · by_cases hs1 : s < F.length
    · rw [List.getElem?_append_left (by simpa using hs1)] at hs
      rw [List.getElem?_append_left (by simpa [h.len] using hs1)]
      by_cases hsr : s = r
      · subst hsr
        rw [List.getElem?_set, if_pos rfl, if_pos hlA]
      · rw [List.getElem?_set_ne (fun e => hsr e.symm), List.getElem?_map, Option.map_eq_some_iff] at hs
        obtain ⟨R0, h1, h2⟩ := hs
        cases R0 with
        | none => rw [List.getElem?_set_ne (fun e => hsr e.symm)]; exact h.gone s h1
        | some R0 => cases R0 <;> simp [subR] at h2
    · rw [List.getElem?_append_right (by simpa using hs1)] at hs
      have h0 : s - ((F.map (subR sl pt bp)).set r none).length = 0 := by
        have := (List.getElem?_eq_some_iff.mp hs).1; simp at this; simpa using this
      rw [h0] at hs
      simp at hs
  · obtain ⟨s, y, h1, h2⟩ := ho
    rcases split h1 with ⟨h3, _⟩ | ⟨_, rfl⟩
    · exact Nat.lt_of_lt_of_le (h.lt b ⟨s, y, h3, h2⟩) hsize
    · exact (hblk b h2).2
  · obtain ⟨s, y, h1, h2⟩ := ho
    rcases split h1 with ⟨h3, _⟩ | ⟨_, rfl⟩
    · exact h.ok b ⟨s, y, h3, h2⟩
    · rcases (hblk b h2).1 with h3 | h3
      · exact h.ok b ⟨r, x, hr, h3⟩
      · intro hbad; have := h.bad b hbad; omega

end Go.Proofs.YtjnhclnnobejgaaE

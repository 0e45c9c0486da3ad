/- The engine, tenth part: roots handed to a call and taken back; conditions: none. -/
import Derived.Test.YtjnhclnnobejgaaEi
namespace Go.Proofs.YtjnhclnnobejgaaE
open Go.RowKit
set_option linter.unusedVariables false
set_option linter.unusedSimpArgs false
variable [DW : Drw]

omit DW in
theorem idx_some {r : Nat} : ∀ {L : List Nat} {i : Nat}, idx r L = some i → L[i]? = some r
  | [], i, h => by simp [idx] at h
  | s :: L, i, h => by
    simp only [idx] at h
    split at h
    · rename_i hb
      injection h with h
      subst h
      have : s = r := Nat.eq_of_beq_eq_true hb
      simp [this]
    · split at h
      · rename_i j hj
        injection h with h
        subst h
        simpa using idx_some hj
      · simp at h

omit DW in
theorem memN_of {r : Nat} : ∀ {L : List Nat} {i : Nat}, L[i]? = some r → memN r L = true
  | [], i, h => by simp at h
  | s :: L, 0, h => by
    have : s = r := by simpa using h
    subst this
    simp [memN]
  | s :: L, i + 1, h => by
    have := memN_of (L := L) (i := i) (by simpa using h)
    simp only [memN]
    split
    · rfl
    · exact this

omit DW in
theorem nodup_inj : ∀ {L : List Nat}, nodupN L = true → ∀ {i j r : Nat}, L[i]? = some r → L[j]? = some r → i = j
  | [], _, i, j, r, h, _ => by simp at h
  | s :: L, hn, i, j, r, hi, hj => by
    simp only [nodupN] at hn
    split at hn
    · simp at hn
    · rename_i hm
      cases i with
      | zero =>
        cases j with
        | zero => rfl
        | succ j =>
          have : s = r := by simpa using hi
          subst this
          have := memN_of (L := L) (i := j) (by simpa using hj)
          rw [hm] at this; simp at this
      | succ i =>
        cases j with
        | zero =>
          have : s = r := by simpa using hj
          subst this
          have := memN_of (L := L) (i := i) (by simpa using hi)
          rw [hm] at this; simp at this
        | succ j => rw [nodup_inj hn (i := i) (j := j) (r := r) (by simpa using hi) (by simpa using hj)]

/-- What is known of the roots of L. -/
def packA (L : List Nat) (A : List (Option RI)) : List (Option RI) := L.map fun r => (A[r]?).join

omit DW in
theorem packA_get {L : List Nat} {A : List (Option RI)} {i : Nat} {x : RI} (h : (packA L A)[i]? = some (some x)) : ∃ r, L[i]? = some r ∧ A[r]? = some (some x) := by
  unfold packA at h
  rw [List.getElem?_map, Option.map_eq_some_iff] at h
  obtain ⟨r, h1, h2⟩ := h
  refine ⟨r, h1, ?_⟩
  cases hA : A[r]? with
  | none => rw [hA] at h2; simp at h2
  | some y => rw [hA] at h2; simp at h2; rw [h2]
omit DW in
theorem packA_of {L : List Nat} {A : List (Option RI)} {i r : Nat} {x : RI} (h : L[i]? = some r) (hA : A[r]? = some (some x)) : (packA L A)[i]? = some (some x) := by
  unfold packA
  rw [List.getElem?_map, h]; simp [hA]
omit DW in
theorem packA_own {L : List Nat} {A : List (Option RI)} {b : Nat} (h : Own (packA L A) b) : Own A b := by
  obtain ⟨i, x, h1, h2⟩ := h
  obtain ⟨r, _, h3⟩ := packA_get h1
  exact ⟨r, x, h3, h2⟩

omit DW in
/-- References turned, from one set of waiting owners to another. -/
theorem sub_rel2 {B1 B : Bad} {w w' : World} {A A' : List (Option RI)} {sl : Nat → V} {pt : Nat → Nat → Nat → V} {bp : Nat → Nat → V}
    (hw : ∀ b, @Free B A b → b < w.heap.size → w'.heap[b]? = w.heap[b]?) (hS : ∀ b, @Free B A b → b < w.heap.size → @Free B1 A' b)
    (h1 : ∀ r v e es, A[r]? = some (some (.arr v e es)) → ∀ u, SlOf v u → @RelV B1 w' A' (sl r) u)
    (h2 : ∀ r i j g n cap es e, A[r]? = some (some (.arr (.slice (some ⟨g, 0, none⟩) n cap) e es)) → @RelV B1 w' A' (pt r i j) (.pointer (some ⟨g, i * es + j, none⟩)))
    (h3 : ∀ r j g, A[r]? = some (some (.box g)) → @RelV B1 w' A' (bp r j) (.pointer (some ⟨g, j, none⟩)))
    (h4 : ∀ r v T n vs, A[r]? = some (some (.nst v T n vs)) → @SubN B1 w' A' (sl r) (.nst v T n vs) v) {c : V} {v : Value} (h : @RelV B w A c v) : @RelV B1 w' A' (subV sl pt bp c) v := by
  induction h with
  | d x v h => rw [subV]; exact @RelV.d B1 w' A' x v (h.mono hw hS)
  | agg cs vs hn h ih =>
    rw [subV, subL_eq]
    refine @RelV.agg B1 w' A' _ vs (by simpa using hn) (fun i c v hc hv => ?_)
    rw [List.getElem?_map, Option.map_eq_some_iff] at hc
    obtain ⟨c0, hc0, rfl⟩ := hc
    exact ih i c0 v hc0 hv
  | tup cs vs hn h ih =>
    rw [subV, subL_eq]
    refine @RelV.tup B1 w' A' _ vs (by simpa using hn) (fun i c v hc hv => ?_)
    rw [List.getElem?_map, Option.map_eq_some_iff] at hc
    obtain ⟨c0, hc0, rfl⟩ := hc
    exact ih i c0 v hc0 hv
  | bp r j g h => rw [subV]; exact h3 r j g h
  | ptr r i j g n cap es e h => rw [subV]; exact h2 r i j g n cap es e h
  | sl r v e es h u hv => rw [subV]; exact h1 r v e es h u hv
  | e0 p => rw [subV]; exact @RelV.e0 B1 w' A' p
  | lst T cs vs g hg hf k1 hn h ih =>
    rw [subV, subL_eq]
    have hlt := (Array.getElem?_eq_some_iff.mp hg).1
    refine @RelV.lst B1 w' A' T _ vs g (by rw [hw g hf hlt]; exact hg) (hS g hf hlt) k1 (by simpa using hn) (fun i c v hc hv => ?_)
    rw [List.getElem?_map, Option.map_eq_some_iff] at hc
    obtain ⟨c0, hc0, rfl⟩ := hc
    exact ih i c0 v hc0 hv
  | mp r g h => rw [subV]; exact @mpOf_rel B1 w' A' _ g (h3 r 0 g h)
  | rp rows i j b o es cap h hes => rw [subV]; exact @RelV.rp B1 w' A' rows i j b o es cap (h.mono hw hS) hes
  | clo f cs vs hn h ih =>
    rw [subV, subL_eq]
    refine @RelV.clo B1 w' A' f _ vs (by simpa using hn) (fun i c v hc hv => ?_)
    rw [List.getElem?_map, Option.map_eq_some_iff] at hc
    obtain ⟨c0, hc0, rfl⟩ := hc
    exact ih i c0 v hc0 hv
  | tl r i g n cap es e h hi hc => rw [subV]; exact @tlOf_rel B1 w' A' _ _ i g n cap es (h1 r _ e es h _ (.of _ _ _)) (h2 r 1 0 g n cap es e h) hi hc
  | nsl r v T n vs h u hs => rw [subV]; exact @onNs_rel B1 _ _ _ _ _ _ _ (h4 r v T n vs h) _ hs
  | nptr r i j g m cap T n vs h => rw [subV]; exact @onN_rel B1 _ _ _ _ _ _ _ _ _ _ (h4 r _ T n vs h) fun r' n' vs' hr _ => @RelV.nptr B1 _ _ r' i j g m cap T n' vs' hr
  | ns r i v T n vs u0 h hi hu u hs => rw [subV]; exact @onC_rel B1 _ _ _ _ _ _ _ _ _ (h4 r v T n vs h) hi hu _ hs
  | np r i k c v T n vs g o m cap h hi hu => rw [subV]; exact @onN_rel B1 _ _ _ _ _ _ _ _ _ _ (h4 r v T n vs h) fun r' n' vs' hr hx => @RelV.np B1 _ _ r' i k c v T n' vs' g o m cap hr (hx i _ hi hu).1 (hx i _ hi hu).2
  | nt r i m' v T n vs p m cap h hi hu hm => rw [subV]; exact @onN_rel B1 _ _ _ _ _ _ _ _ _ _ (h4 r v T n vs h) fun r' n' vs' hr hx => @RelV.nt B1 _ _ r' i m' v T n' vs' p m cap hr (hx i _ hi hu).1 (hx i _ hi hu).2 hm
  | dead v => rw [subV]; exact @RelV.dead B1 w' A' v

omit DW in
theorem rootRel_sub {B1 B : Bad} {w w' : World} {A A' : List (Option RI)} {ri : RI} {R : Root} {sl : Nat → V} {pt : Nat → Nat → Nat → V} {bp : Nat → Nat → V} (h : @RootRel B w A ri R)
    (hw : ∀ b, @Free B A b → b < w.heap.size → w'.heap[b]? = w.heap[b]?) (hS : ∀ b, @Free B A b → b < w.heap.size → @Free B1 A' b) (hb : ∀ b, ri.has b → w'.heap[b]? = w.heap[b]?)
    (hsub : ∀ {c : V} {v : Value}, @RelV B w A c v → @RelV B1 w' A' (subV sl pt bp c) v) {R' : Root} (hR : subR sl pt bp (some R) = some R') : @RootRel B1 w' A' ri R' := by
  cases R with
  | arr e es1 rows =>
    simp only [subR] at hR
    injection hR with hR
    subst hR
    cases ri with
    | box g => exact h.elim
    | nst => exact h.elim
    | arr v e' es =>
      obtain ⟨k0, k00, k1, k2, xs, k3, k4⟩ := h
      exact ⟨k0, k00, k1, k2, xs, owns_kept k3 hb, k4.mono hw hS⟩
  | box cs =>
    simp only [subR] at hR
    injection hR with hR
    subst hR
    cases ri with
    | arr v e es => exact h.elim
    | nst => exact h.elim
    | box g =>
      obtain ⟨cells, e, e1, e2⟩ := h
      refine ⟨cells, e, by rw [hb g rfl]; exact e1, by rw [subL_eq]; simpa using e2.1, fun i c v hc hv => ?_⟩
      rw [subL_eq, List.getElem?_map, Option.map_eq_some_iff] at hc
      obtain ⟨c0, hc0, rfl⟩ := hc
      exact hsub (e2.2 i c0 v hc0 hv)
  | mp K ents =>
    simp only [subR] at hR
    injection hR with hR
    subst hR
    cases ri with
    | arr v e es => exact h.elim
    | nst => exact h.elim
    | box g =>
      obtain ⟨es, clock, e1, e2⟩ := h
      exact ⟨es, clock, by rw [hb g rfl]; exact e1, e2.mono hw hS⟩
  | nst T n rows =>
    simp only [subR] at hR
    injection hR with hR
    subst hR
    cases ri with
    | arr v e es => exact h.elim
    | box g => exact h.elim
    | nst v T' n' vs =>
      obtain ⟨k0, k1, k2⟩ := h
      exact ⟨k0, k1, k2.mono hw hS hb⟩

omit DW in
theorem pack_sub {B1 B : Bad} {w : World} {A : List (Option RI)} {L : List Nat} (hS : ∀ b, @Free B A b → b < w.heap.size → @Free B1 (packA L A) b) {c : V} {v : Value} (h : @RelV B w A c v) :
    @RelV B1 w (packA L A) (subV (pkS L) (pkP L) (pkB L) c) v := by
  refine sub_rel2 (fun _ _ _ => rfl) hS (fun r v e es hA u hv => ?_) (fun r i j g n cap es e hA => ?_) (fun r j g hA => ?_) (fun r v T n vs hA => ?_) h
  · unfold pkS
    split
    · rename_i i hi; exact @RelV.sl B1 _ _ i v e es (packA_of (idx_some hi) hA) u hv
    · exact @RelV.dead B1 _ _ _
  · unfold pkP
    split
    · rename_i n' hi; exact @RelV.ptr B1 _ _ n' i j g n cap es e (packA_of (idx_some hi) hA)
    · exact @RelV.dead B1 _ _ _
  · unfold pkB
    split
    · rename_i n hi; exact @RelV.bp B1 _ _ n j g (packA_of (idx_some hi) hA)
    · exact @RelV.dead B1 _ _ _
  · unfold pkS
    split
    · rename_i i hi; exact @subN_of B1 _ _ _ _ _ (packA_of (idx_some hi) hA)
    · trivial

omit DW in
theorem root_none {B : Bad} {w : World} {A : List (Option RI)} {F : Fo} (h : @Roots B w A F) {r : Nat} (hr : root F r = none) : (A[r]?).join = none := by
  have key : ∀ (F : Fo) (r : Nat), root F r = none → F[r]? = none ∨ F[r]? = some none := by
    intro F
    induction F with
    | nil => intro r _; exact .inl (by simp)
    | cons x F ih =>
      intro r h
      cases r with
      | zero => simp [root] at h; subst h; exact .inr rfl
      | succ r => simpa using ih r (by simpa [root] using h)
  rcases key F r hr with h1 | h1
  · have : A[r]? = none := by
      rw [List.getElem?_eq_none_iff] at h1 ⊢; rw [h.len]; exact h1
    rw [this]; rfl
  · rw [h.gone r h1]; rfl

omit DW in
theorem Roots.pack {B1 B : Bad} {w : World} {A : List (Option RI)} {F : Fo} (h : @Roots B w A F) {L : List Nat} (hn : nodupN L = true) (hS : ∀ b, @Free B A b → b < w.heap.size → @Free B1 (packA L A) b)
    (hok : ∀ b, Own (packA L A) b → ¬ B1.bad b) (hbad : ∀ b, B1.bad b → b < w.heap.size) : @Roots B1 w (packA L A) (packF L F) := by
  have len : (packA L A).length = (packF L F).length := by simp [packA, packF, mapO_eq]
  refine @Roots.mk B1 _ _ _ len (fun i j x y b hx hy hxb hyb => ?_) (fun i R hR => ?_) (fun i hR => ?_) (fun b hb => h.lt b (packA_own hb)) hok hbad
  · obtain ⟨r, h1, h2⟩ := packA_get hx
    obtain ⟨s, h3, h4⟩ := packA_get hy
    have := h.inj r s x y b h2 h4 hxb hyb
    subst this
    exact nodup_inj hn h1 h3
  · unfold packF at hR
    rw [mapO_eq, List.getElem?_map, Option.map_eq_some_iff] at hR
    obtain ⟨r, h1, h2⟩ := hR
    cases hr : root F r with
    | none => rw [hr] at h2; simp [subR] at h2
    | some R0 =>
      rw [hr] at h2
      obtain ⟨ri, g1, g2⟩ := h.rel r R0 (root_get hr)
      exact ⟨ri, packA_of h1 g1, rootRel_sub g2 (fun _ _ _ => rfl) hS (fun _ _ => rfl) (fun hc => pack_sub hS hc) h2⟩
  · unfold packF at hR
    rw [mapO_eq, List.getElem?_map, Option.map_eq_some_iff] at hR
    obtain ⟨r, h1, h2⟩ := hR
    unfold packA
    rw [List.getElem?_map, h1]
    cases hr : root F r with
    | none => simp [root_none h hr]
    | some R0 => rw [hr] at h2; cases R0 <;> simp [subR] at h2

end Go.Proofs.YtjnhclnnobejgaaE

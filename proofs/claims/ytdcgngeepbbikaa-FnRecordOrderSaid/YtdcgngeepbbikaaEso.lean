/- The engine, known contracts: slices.Sort at whole numbers and at strings sorts a row of its caller's own; conditions: none. -/
import Derived.Test.YtdcgngeepbbikaaEq
import Derived.Shelf.SortG.Plain
import Derived.Shelf.SortG.SortNone
import Derived.Sort.OwnSorted
import Derived.Sort.OwnSortedInts
namespace Go.Proofs.YtdcgngeepbbikaaE
open Go.Proofs Go.Shelf Go.RowKit Go.Sort
set_option linter.unusedVariables false
set_option linter.unusedSimpArgs false

def decI : List D → Option Int
  | [.lit (.int .i64 n)] => some n
  | _ => none
def decS : List D → Option ByteArray
  | [.lit (.string s)] => some s
  | _ => none
def decL {α : Type} (f : List D → Option α) : List (List D) → Option (List α)
  | [] => some []
  | r :: rs => match f r, decL f rs with
    | some x, some l => some (x :: l)
    | _, _ => none
theorem decL_map {α : Type} {f : List D → Option α} {e : α → List D} (h : ∀ x, f (e x) = some x) : ∀ l : List α, decL f (l.map e) = some l
  | [] => rfl
  | x :: l => by rw [List.map_cons, decL, h, decL_map h l]
theorem decL_inv {α : Type} {f : List D → Option α} {e : α → List D} (h : ∀ r x, f r = some x → r = e x) : ∀ {rows : List (List D)} {l : List α}, decL f rows = some l → rows = l.map e
  | [], l, h1 => by rw [decL] at h1; injection h1 with h1; subst h1; rfl
  | r :: rs, l, h1 => by
    rw [decL] at h1
    split at h1
    · rename_i x l' h2 h3
      injection h1 with h1
      subst h1
      rw [List.map_cons, ← decL_inv h h3, ← h r x h2]
    · simp at h1
def eI (n : Int) : List D := [.lit (.int .i64 n)]
def eS (s : ByteArray) : List D := [.lit (.string s)]
theorem decI_inv (r : List D) (n : Int) (h : decI r = some n) : r = eI n := by
  unfold decI at h
  split at h
  · injection h with h; subst h; rfl
  · simp at h
theorem decS_inv (r : List D) (n : ByteArray) (h : decS r = some n) : r = eS n := by
  unfold decS at h
  split at h
  · injection h with h; subst h; rfl
  · simp at h
/-- What a sort makes of its list. -/
noncomputable def sortI (l : List Int) : List Int := l.mergeSort fun x y => decide (x ≤ y)
noncomputable def sortS (l : List ByteArray) : List ByteArray := ((l.map fun b => b.data.toList).mergeSort fun x y => decide (x ≤ y)).map fun b => ⟨b.toArray⟩
noncomputable def extSortI : List V → Fo → Option (V × Fo) := fun args F => match args, F with
  | [.sl 0], [some (.arr e es rows)] => match decL decI rows, Nat.beq e U8, Nat.beq es 1, decide (rows.length < 4611686018427387904) with
    | some zs, false, true, true => some (.tup [], [some (.arr e 1 ((sortI zs).map eI))])
    | _, _, _, _ => none
  | _, _ => none
noncomputable def extSortS : List V → Fo → Option (V × Fo) := fun args F => match args, F with
  | [.sl 0], [some (.arr e es rows)] => match decL decS rows, Nat.beq e U8, Nat.beq es 1, decide (rows.length < 4611686018427387904) with
    | some zs, false, true, true => some (.tup [], [some (.arr e 1 ((sortS zs).map eS))])
    | _, _, _, _ => none
  | _, _ => none

theorem repL_lits {α : Type} {w : World} {S : Nat → Prop} {f : α → Value} {l : List α} {xs : List Value} (h : RepL w S (l.map fun x => D.lit (f x)) xs) : xs = l.map f := by
  obtain ⟨h1, h2⟩ := h
  refine List.ext_getElem (by simpa using h1.symm) fun i i1 i2 => ?_
  have := h2 i (D.lit (f (l[i]'(by simpa using i2)))) xs[i] (by simp [List.getElem?_eq_getElem (by simpa using i2 : i < l.length)]) (List.getElem?_eq_getElem i1)
  rw [this.lit_inv]; simp
theorem lits_repL {α : Type} (w : World) (S : Nat → Prop) (f : α → Value) (hf : ∀ x, (f x).oneCell' = true) (l : List α) : RepL w S (l.map fun x => D.lit (f x)) (l.map f) := by
  refine ⟨by simp, fun i x v h1 h2 => ?_⟩
  rw [List.getElem?_map, Option.map_eq_some_iff] at h1 h2
  obtain ⟨a, h3, rfl⟩ := h1
  obtain ⟨b, h4, rfl⟩ := h2
  rw [h3] at h4
  injection h4 with h4
  subst h4
  exact .lit _ (hf a)
theorem flat_lits {α : Type} (f : α → Value) (l : List α) : (l.map fun x => [D.lit (f x)]).flatten = l.map fun x => D.lit (f x) := by
  induction l with
  | nil => rfl
  | cons x l ih => simp [ih]

theorem below_more (w : World) (os : Array Obj) : Go.RowKit.Below w.heap.size w (grow w os) := ⟨rfl, rfl, rfl, by simp [grow], fun k hk => heap_grow_old _ _ hk⟩
/-- A row turned in its place, and new blocks. -/
theorem sort_post {B : Bad} {w w1 w' : World} {A : List (Option RI)} {e : TypeId} {rows rows' : List (List D)} {g cap : Nat} (hR : @Roots B w A [some (.arr e 1 rows)])
    (hA : A[0]? = some (some (.arr (.slice (some ⟨g, 0, none⟩) rows.length cap) e 1))) (hs : w1.heap.size = w.heap.size) (hne : ∀ b, b ≠ g → w1.heap[b]? = w.heap[b]?) (hb : Go.RowKit.Below w1.heap.size w1 w')
    (h1 : w'.os = w.os) (h2 : w'.tape = w.tape) (h3 : w'.output = w.output) (hroot : @RootRel B w1 A (.arr (.slice (some ⟨g, 0, none⟩) rows.length cap) e 1) (.arr e 1 rows')) :
    CallPost B A w (.tup []) [some (.arr e 1 rows')] (.returned (.tuple #[])) w' := by
  have hW := @Roots.write B w w1 A _ hR 0 _ _ (.arr e 1 rows') rfl hA g rfl hs hne hroot
  refine ⟨_, A, rfl, @Roots.below _ B _ _ _ _ hW (.of' hb fun h => h.elim), .tup _ _ rfl (fun i c v h => by simp at h), ⟨fun h => h.elim, h1, h2, h3, by rw [← hs]; exact hb.size, fun b hlt hf => ?_⟩, .refl _ _, fun _ h => h⟩
  rw [hb.block b (by rw [hs]; exact hlt)]
  exact hne b fun e => hf ⟨0, _, hA, by rw [e]; rfl⟩

section
variable {P : Program} {ρ : Ren}
/-- slices.Sort's contract at whole numbers, in the engine's form. -/
theorem ext_sortI {f : FuncId} (hf : ρ.f 53 = f) (L : SlLaysN.n53 P ρ) (hfu : ∃ fu, P.funcs[f]? = some fu ∧ fu.body.isNone = false ∧ (fu.name == "runtime.NumGoroutine") = false) : ExtOK P f extSortI := by
  subst hf
  refine ⟨hfu, fun args F v F1 hg B w A vals hR hl hrel => ?_⟩
  unfold extSortI at hg
  split at hg
  case h_2 => simp at hg
  rename_i e es rows
  split at hg
  case h_2 => simp at hg
  rename_i zs c1 c2 c3 c4
  simp only [Option.some.injEq, Prod.mk.injEq] at hg
  obtain ⟨rfl, rfl⟩ := hg
  have hes : es = 1 := Nat.eq_of_beq_eq_true c3
  subst hes
  have hrows := decL_inv decI_inv c1
  subst hrows
  have hlen : (zs.map eI).length = zs.length := List.length_map ..
  have hlt : zs.length < 4611686018427387904 := by rw [← hlen]; exact of_decide_eq_true c4
  obtain ⟨u, rfl⟩ : ∃ u, vals = #[u] := by
    match vals, hl with
    | ⟨[u]⟩, _ => exact ⟨u, rfl⟩
  have h0 := hrel 0 _ u rfl rfl
  obtain ⟨ri, r1, r2⟩ := @Roots.rel B _ _ _ hR 0 _ rfl
  cases h0 with
  | sl _ _ e3 es3 hA _ hform =>
  rw [hA] at r1
  injection r1 with r1; injection r1 with r1
  subst r1
  obtain ⟨rfl, rfl, hes, hrl, xs, how, hrep⟩ := r2
  have hse : (sortI zs).length = zs.length := by unfold sortI; exact List.length_mergeSort _
  rcases how.2 with ⟨rfl, hz0⟩ | ⟨g, cap, cur, rfl, hbase, ⟨fz, hh, hmk⟩, h1, h2, h3, h4⟩
  · have hz : zs = [] := List.eq_nil_of_length_eq_zero (by rw [← hlen]; exact hz0)
    subst hz
    rw [show sortI [] = [] from List.mergeSort_nil]
    obtain ⟨p, cap, rfl⟩ : ∃ p cap, u = .slice p 0 cap := by
      obtain ⟨_, rfl | ⟨_, p, rfl⟩⟩ := hform
      · exact ⟨_, _, rfl⟩
      · exact ⟨_, _, rfl⟩
    refine (AnyG.slices_Sort_int_none L p cap w).mono ?_
    rintro e' w' ⟨rfl, rfl⟩
    exact ⟨_, A, rfl, hR, .tup _ _ rfl (fun i c v h => by simp at h), .refl _ _, .refl _ _, fun _ h => h⟩
  · obtain ⟨_, rfl | ⟨hc, _⟩⟩ := hform
    case inr => cases hc
    have hfz := hmk.no (Nat.ne_of_beq_eq_false c2)
    subst hfz
    rw [show (zs.map eI).flatten = zs.map fun n => D.lit (Value.int .i64 n) from flat_lits (Value.int .i64) zs] at hrep
    have hxs := repL_lits (f := Value.int .i64) hrep
    subst hxs
    rw [hlen] at h1 h4 hA ⊢
    have hglt : g < w.heap.size := (Array.getElem?_eq_some_iff.mp hh).1
    refine (AnyG.slices_Sort_int L g 0 cap zs w (holds_of_blockI hh (by simpa using h4)) hglt hlt).mono ?_
    rintro e' w' ⟨rfl, n, os, rfl⟩
    have hgr := grownBy_sortedI (w := w) (g := g) (n := n) (os := os) (zs.mergeSort fun x y => decide (x ≤ y)).toArray
    have hgr0 := grownBy_sortedI (w := w) (g := g) (n := n) (os := #[]) (zs.mergeSort fun x y => decide (x ≤ y)).toArray
    have hown := ownsRow_sortedI (n := n) (os := #[]) (ts := zs.mergeSort fun x y => decide (x ≤ y)) hse (Nat.zero_le g) hh h1 h2 h3
    rw [grow_empty] at hgr0 hown
    refine sort_post (w1 := putRow (Value.int .i64) (Sort.ahead w n) g 0 (zs.mergeSort fun x y => decide (x ≤ y)).toArray) hR (by rw [hlen]; exact hA) (by simp [Sort.ahead]) (fun b hb => ?_) (below_more _ _) hgr.os hgr.tape hgr.output ?_
    · by_cases hlt2 : b < w.heap.size
      · exact hgr0.block b hlt2 (fun e => hb (by injection e))
      · have hsz : (putRow (Value.int .i64) (Sort.ahead w n) g 0 (zs.mergeSort fun x y => decide (x ≤ y)).toArray).heap.size = w.heap.size := by simp [Sort.ahead]
        rw [Array.getElem?_eq_none (by omega), Array.getElem?_eq_none (by omega)]
    · rw [hlen]
      refine ⟨rfl, rfl, hes, fun row hrow => ?_, (sortI zs).map (Value.int .i64), ?_, ?_⟩
      · obtain ⟨n, _, rfl⟩ := List.mem_map.mp hrow
        rfl
      · rw [show ((sortI zs).map eI).length = zs.length by rw [List.length_map, hse]]; exact ownsB_of hown
      · rw [show ((sortI zs).map eI).flatten = (sortI zs).map fun n => D.lit (Value.int .i64 n) from flat_lits (Value.int .i64) _]
        exact lits_repL _ _ _ (fun _ => rfl) _
/-- slices.Sort's contract at strings, in the engine's form. -/
theorem ext_sortS {f : FuncId} (hf : ρ.f 54 = f) (L : SlLaysN.n54 P ρ) (hfu : ∃ fu, P.funcs[f]? = some fu ∧ fu.body.isNone = false ∧ (fu.name == "runtime.NumGoroutine") = false) : ExtOK P f extSortS := by
  subst hf
  refine ⟨hfu, fun args F v F1 hg B w A vals hR hl hrel => ?_⟩
  unfold extSortS at hg
  split at hg
  case h_2 => simp at hg
  rename_i e es rows
  split at hg
  case h_2 => simp at hg
  rename_i zs c1 c2 c3 c4
  simp only [Option.some.injEq, Prod.mk.injEq] at hg
  obtain ⟨rfl, rfl⟩ := hg
  have hes : es = 1 := Nat.eq_of_beq_eq_true c3
  subst hes
  have hrows := decL_inv decS_inv c1
  subst hrows
  have hlen : (zs.map eS).length = zs.length := List.length_map ..
  have hlt : zs.length < 4611686018427387904 := by rw [← hlen]; exact of_decide_eq_true c4
  obtain ⟨u, rfl⟩ : ∃ u, vals = #[u] := by
    match vals, hl with
    | ⟨[u]⟩, _ => exact ⟨u, rfl⟩
  have h0 := hrel 0 _ u rfl rfl
  obtain ⟨ri, r1, r2⟩ := @Roots.rel B _ _ _ hR 0 _ rfl
  cases h0 with
  | sl _ _ e3 es3 hA _ hform =>
  rw [hA] at r1
  injection r1 with r1; injection r1 with r1
  subst r1
  obtain ⟨rfl, rfl, hes, hrl, xs, how, hrep⟩ := r2
  have hse : (sortS zs).length = zs.length := by unfold sortS; rw [List.length_map, List.length_mergeSort, List.length_map]
  rcases how.2 with ⟨rfl, hz0⟩ | ⟨g, cap, cur, rfl, hbase, ⟨fz, hh, hmk⟩, h1, h2, h3, h4⟩
  · have hz : zs = [] := List.eq_nil_of_length_eq_zero (by rw [← hlen]; exact hz0)
    subst hz
    rw [show sortS [] = [] by unfold sortS; rw [List.map_nil, List.mergeSort_nil, List.map_nil]]
    obtain ⟨p, cap, rfl⟩ : ∃ p cap, u = .slice p 0 cap := by
      obtain ⟨_, rfl | ⟨_, p, rfl⟩⟩ := hform
      · exact ⟨_, _, rfl⟩
      · exact ⟨_, _, rfl⟩
    refine (AnyG.slices_Sort_string_none L p cap w).mono ?_
    rintro e' w' ⟨rfl, rfl⟩
    exact ⟨_, A, rfl, hR, .tup _ _ rfl (fun i c v h => by simp at h), .refl _ _, .refl _ _, fun _ h => h⟩
  · obtain ⟨_, rfl | ⟨hc, _⟩⟩ := hform
    case inr => cases hc
    have hfz := hmk.no (Nat.ne_of_beq_eq_false c2)
    subst hfz
    rw [show (zs.map eS).flatten = zs.map fun n => D.lit (Value.string n) from flat_lits Value.string zs] at hrep
    have hxs := repL_lits (f := Value.string) hrep
    subst hxs
    have hbs : zs.map Value.string = (zs.map fun b => b.data.toList).map encStr := by
      rw [List.map_map]; exact List.map_congr_left fun b _ => rfl
    have hbl : (zs.map fun b => b.data.toList).length = zs.length := List.length_map ..
    have hglt : g < w.heap.size := (Array.getElem?_eq_some_iff.mp hh).1
    rw [hbs] at h4
    rw [hlen] at h1 h4 hA ⊢
    generalize hBS : (zs.map fun b => b.data.toList) = bs at h4 hbl
    have hSS : sortS zs = (bs.mergeSort fun x y => decide (x ≤ y)).map fun b => ⟨b.toArray⟩ := by unfold sortS; rw [hBS]
    rw [hSS] at hse ⊢
    rw [List.length_map] at hse
    rw [← hbl] at h1 h4 hA hse hlt ⊢
    refine (AnyG.slices_Sort_string L g 0 cap bs w (holds_of_block hh (by simpa using h4)) hglt hlt).mono ?_
    rintro e' w' ⟨rfl, n, os, rfl⟩
    generalize hTS : (bs.mergeSort fun x y => decide (x ≤ y)) = ts at hse ⊢
    have hgr := grownBy_sorted (w := w) (g := g) (n := n) (os := os) ts.toArray
    have hgr0 := grownBy_sorted (w := w) (g := g) (n := n) (os := #[]) ts.toArray
    have hown := ownsRow_sorted (n := n) (os := #[]) (ts := ts) hse (Nat.zero_le g) hh h1 h2 h3
    rw [grow_empty] at hgr0 hown
    refine sort_post (w1 := putRow encStr (Sort.ahead w n) g 0 ts.toArray) hR (by rw [hlen, ← hbl]; exact hA) (by simp [Sort.ahead]) (fun b hb => ?_) (below_more _ _) hgr.os hgr.tape hgr.output ?_
    · by_cases hlt2 : b < w.heap.size
      · exact hgr0.block b hlt2 (fun e => hb (by injection e))
      · have hsz : (putRow encStr (Sort.ahead w n) g 0 ts.toArray).heap.size = w.heap.size := by simp [Sort.ahead]
        rw [Array.getElem?_eq_none (by omega), Array.getElem?_eq_none (by omega)]
    · rw [hlen, ← hbl]
      refine ⟨rfl, rfl, hes, fun row hrow => ?_, ts.map encStr, ?_, ?_⟩
      · obtain ⟨n, _, rfl⟩ := List.mem_map.mp hrow
        rfl
      · rw [show ((ts.map fun b => (⟨b.toArray⟩ : ByteArray)).map eS).length = bs.length by rw [List.length_map, List.length_map, hse]]; exact ownsB_of hown
      · rw [show ((ts.map fun b => (⟨b.toArray⟩ : ByteArray)).map eS).flatten = (ts.map fun b => (⟨b.toArray⟩ : ByteArray)).map fun n => D.lit (Value.string n) from flat_lits Value.string _, show ts.map encStr = (ts.map fun b => (⟨b.toArray⟩ : ByteArray)).map Value.string by rw [List.map_map]; rfl]
        exact lits_repL _ _ _ (fun _ => rfl) _
end
end Go.Proofs.YtdcgngeepbbikaaE

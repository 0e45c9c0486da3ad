/- The engine: rows with slices of one's own, as memory holds them; conditions: none. -/
import Derived.Test.YtjnhclnnobejgaaEf
namespace Go.Proofs.YtjnhclnnobejgaaE
open Go.RowKit
set_option linter.unusedVariables false
set_option linter.unusedSimpArgs false
variable [DW : Drw]

section
variable {w w' : World} {S S' : Nat → Prop} {v : Value} {T : NT} {n : Nat} {vs : List Value} {rows : List (List D)}

omit DW in
/-- Own rows as data. -/
theorem rep_of_cells {es : Nat} {e : TypeId} {xs : List Value} (h1 : 0 < es) (h2 : ∀ row ∈ rows, row.length = es) (h3 : ownsB w 0 e es v rows.length xs) (hS : ∀ b, v.ownBlock = some b → S b)
    (h4 : ∀ (i : Nat) (x : D) (y : Value), rows.flatten[i]? = some x → xs[i]? = some y → Rep w S x y) : Rep w S (.arr rows) v := by
  rcases h3.2 with ⟨rfl, hz⟩ | ⟨g, cap, cur, rfl, _, ⟨fz, hh, hmk⟩, hnc, hcm, hcs, htake⟩
  · have : rows = [] := List.eq_nil_of_length_eq_zero hz
    subst this
    exact .empty _ _ (fun _ => rfl)
  · have hx : xs.length = rows.length * es := h3.1
    refine .arr rows g 0 es cap (fun i => xs.getD i undef) (hS g rfl) h1 h2 (Nat.le_trans hnc hcm) hnc (fun i hi => ?_) (fun i x hi => ?_)
    · have := h3.cells (g := g) rfl i (xs.getD i undef) (by rw [List.getD_eq_getElem?_getD, List.getElem?_eq_getElem (by omega)]; rfl)
      rw [add_at] at this
      exact this
    · have hlt : i < rows.flatten.length := (List.getElem?_eq_some_iff.mp hi).1
      rw [flat_len rows h2] at hlt
      exact h4 i x (xs.getD i undef) hi (by rw [List.getD_eq_getElem?_getD, List.getElem?_eq_getElem (by omega)]; rfl)

omit DW in
theorem NOwn.rep {e2 : TypeId} {es2 : Nat} {rws : List (List D)} {u : Value} (h : NOwn w S e2 es2 rws u) (h0 : 0 < es2) (hS : ∀ b, S b → S' b) (hu : ∀ b, u.ownBlock = some b → S' b) : Rep w S' (.arr rws) u := by
  obtain ⟨h1, ys, h2, h3⟩ := h
  exact rep_of_cells h0 h1 h2 hu fun i x y hx hy => (h3.2 i x y hx hy).mono (fun _ _ _ => rfl) (fun b hb _ => hS b hb)

omit DW in
/-- A place in the cells, as row and place in the row. -/
theorem flat_at {es : Nat} (hes : 0 < es) (hl : ∀ row ∈ rows, row.length = es) {i : Nat} {x : D} (h : rows.flatten[i]? = some x) : ∃ p q row, i = p * es + q ∧ q < es ∧ rows[p]? = some row ∧ row[q]? = some x := by
  have hlt : i < rows.flatten.length := (List.getElem?_eq_some_iff.mp h).1
  rw [flat_len rows hl] at hlt
  have hp : i / es < rows.length := Nat.div_lt_of_lt_mul (by rw [Nat.mul_comm]; exact hlt)
  have hq : i % es < es := Nat.mod_lt _ hes
  have he : i = i / es * es + i % es := by rw [Nat.mul_comm]; exact (Nat.div_add_mod i es).symm
  refine ⟨i / es, i % es, rows[i / es], he, hq, by simp [hp], ?_⟩
  rw [he] at h
  rw [flat_get rows hl (i / es) (i % es) rows[i / es] (by simp [hp]) hq] at h
  exact h

omit DW in
theorem NstRel.rep_all (h : NstRel w S v T n vs rows) (hS : ∀ b, S b → S' b) (hb : ∀ b, (RI.nst v T n vs).has b → S' b) : Rep w S' (.arr rows) v ∧ ∀ (i : Nat) (u : Value), i < n → vs[i]? = some u → ∃ row y, rows[i]? = some row ∧ row[T.c2]? = some (.arr y) ∧ Rep w S' (.arr y) u := by
  obtain ⟨xs, h1, h2⟩ := h.rep
  have hc2 := h.c2
  have inner : ∀ {i : Nat} {y0 : D} {u u' : Value}, vs[i]? = some u → ((i < n ∧ SlOf u u' ∧ ∃ rws, y0 = .arr rws ∧ NOwn w S T.e2 T.es2 rws u) ∨ (n ≤ i ∧ Rep w S y0 u')) → Rep w S' y0 u' := by
    intro i y0 u u' hu hc
    rcases hc with ⟨hi, hs, _, rfl, hc⟩ | ⟨_, hc⟩
    · exact (hc.rep h.es2 hS (fun b hbu => hb b (.inr ⟨i, u, hi, hu, hbu⟩))).slOf hs
    · exact hc.mono (fun _ _ _ => rfl) (fun b hb _ => hS b hb)
  refine ⟨rep_of_cells (Nat.lt_of_le_of_lt (Nat.zero_le _) hc2) h.len h1 (fun b hv => hb b (.inl hv)) fun i x y hx hy => ?_, fun i u hi hu => ?_⟩
  · obtain ⟨p, q, row, rfl, hq, hrow, hxq⟩ := flat_at (Nat.lt_of_le_of_lt (Nat.zero_le _) hc2) h.len hx
    obtain ⟨⟨rws, u, u', g1, g2, g3, g4⟩, g5⟩ := h2 p row hrow
    by_cases hqc : q = T.c2
    · subst hqc
      rw [g1] at hxq; injection hxq with hxq; subst hxq
      rw [g3] at hy; injection hy with hy; subst hy
      exact inner g2 g4
    · exact (g5 q x y hqc hxq hy).mono (fun _ _ _ => rfl) (fun b hb _ => hS b hb)
  · have hlt : i < rows.length := by rw [← h.vl]; exact (List.getElem?_eq_some_iff.mp hu).1
    obtain ⟨⟨rws, u', u2, g1, g2, g3, g4⟩, _⟩ := h2 i rows[i] (by simp [hlt])
    rw [hu] at g2; injection g2 with g2; subst g2
    rcases g4 with ⟨_, _, rws', rfl, g4⟩ | ⟨h0, _⟩
    · exact ⟨rows[i], rws', by simp [hlt], g1, g4.rep h.es2 hS (fun b hbu => hb b (.inr ⟨i, u, hi, hu, hbu⟩))⟩
    · omega

omit DW in
/-- A piece of a list replaced. -/
theorem piece_get {α : Type} (l us : List α) (off : Nat) (hl : off + us.length ≤ l.length) (x : Nat) :
    (l.take off ++ us ++ l.drop (off + us.length))[x]? = if off ≤ x ∧ x < off + us.length then us[x - off]? else l[x]? := by
  split
  · rename_i h
    rw [List.append_assoc, List.getElem?_append_right (by simp; omega), List.getElem?_append_left (by simp; omega)]
    congr 1
    simp; omega
  · rename_i h
    by_cases hx : x < off
    · rw [List.append_assoc, List.getElem?_append_left (by simp; omega), List.getElem?_take, if_pos hx]
    · rw [List.getElem?_append_right (by simp; omega), List.getElem?_drop]
      congr 1
      simp; omega

omit DW in
/-- Cells of one row written: data beside the slice, or a slice of one's own too. -/
theorem NstRel.put {g m cap i j : Nat} {cur : Array Value} {e : TypeId} {fz0 : Nat × Nat} {row : List D} {us : List Value} {ds : List D} {n' : Nat} {vs' : List Value}
    (h : NstRel w S (.slice (some ⟨g, 0, none⟩) m cap) T n vs rows) (hh : w.heap[g]? = some (.cells cur e fz0)) (hm0 : Mk e cur fz0) (hrow : rows[i]? = some row) (hlen : us.length = ds.length) (hj : j + ds.length ≤ T.es)
    (hds : ∀ (q : Nat) (x : D) (y : Value), j + q ≠ T.c2 → ds[q]? = some x → us[q]? = some y → Rep w S x y)
    (hn : (n' = n ∧ vs' = vs ∧ ∀ q, q < ds.length → j + q ≠ T.c2) ∨
      (i ≤ n ∧ n' = max n (i + 1) ∧ ∃ u uc rws q, j + q = T.c2 ∧ ds[q]? = some (.arr rws) ∧ us[q]? = some uc ∧ SlOf u uc ∧ vs' = vs.set i u ∧ NOwn w S T.e2 T.es2 rws u ∧
        ∀ b, u.ownBlock = some b → b ≠ g ∧ ∀ i' u', i' < n → vs[i']? = some u' → u'.ownBlock ≠ some b))
    (hS : ¬ S g) :
    NstRel (w.setRow g (cur.toList.take (i * T.es + j) ++ us ++ cur.toList.drop (i * T.es + j + us.length)).toArray) S (.slice (some ⟨g, 0, none⟩) m cap) T n' vs' (rows.set i (row.take j ++ ds ++ row.drop (j + ds.length))) := by
  obtain ⟨xs, how, h2⟩ := h.rep
  rcases how.2 with ⟨he, _⟩ | ⟨g', cap', cur', he, _, ⟨fz, hh', hmk⟩, hnc, hcm, hcs, htake⟩
  · simp at he
  simp only [Value.slice.injEq, Option.some.injEq, Addr.mk.injEq, and_true, true_and] at he
  obtain ⟨rfl, rfl, rfl⟩ := he
  rw [hh] at hh'
  simp only [Option.some.injEq, Obj.cells.injEq] at hh'
  obtain ⟨rfl, rfl, rfl⟩ := hh'
  have hil : i < rows.length := (List.getElem?_eq_some_iff.mp hrow).1
  have hrl : row.length = T.es := h.len row (List.mem_of_getElem? hrow)
  have hm : (i + 1) * T.es ≤ rows.length * T.es := Nat.mul_le_mul_right _ hil
  rw [Nat.succ_mul] at hm
  have hm2 : rows.length * T.es ≤ cap * T.es := Nat.mul_le_mul_right _ hnc
  have hxl : xs.length = rows.length * T.es := how.1
  have hwo : ∀ b, b ≠ g → (w.setRow g (cur.toList.take (i * T.es + j) ++ us ++ cur.toList.drop (i * T.es + j + us.length)).toArray).heap[b]? = w.heap[b]? := fun b hb => setRow_other w g b _ hb
  have hmono : ∀ b, S b → b < w.heap.size → (w.setRow g (cur.toList.take (i * T.es + j) ++ us ++ cur.toList.drop (i * T.es + j + us.length)).toArray).heap[b]? = w.heap[b]? := fun b hb _ => hwo b (fun e => hS (e ▸ hb))
  have hown : ownsB (w.setRow g (cur.toList.take (i * T.es + j) ++ us ++ cur.toList.drop (i * T.es + j + us.length)).toArray) 0 T.e T.es (.slice (some ⟨g, 0, none⟩) rows.length cap) rows.length
      (xs.take (i * T.es + j) ++ us ++ xs.drop (i * T.es + j + us.length)) := by
    refine ⟨by simp [hxl]; omega, .inr ⟨g, cap, _, rfl, Nat.zero_le _, ⟨fz0, setRow_heap w g cur _ T.e _ hh, hm0.of (by simp [hcs]; omega)⟩, hnc, hcm, by simp [hcs]; omega, ?_⟩⟩
    have hx1 : xs.take (i * T.es + j) = cur.toList.take (i * T.es + j) := by rw [← htake, List.take_take]; congr 1; omega
    have hx2 : xs.drop (i * T.es + j + us.length) = (cur.toList.drop (i * T.es + j + us.length)).take (rows.length * T.es - (i * T.es + j + us.length)) := by rw [← htake, List.drop_take]
    have hll : (cur.toList.take (i * T.es + j) ++ us).length = i * T.es + j + us.length := by simp [hcs]; omega
    rw [List.toList_toArray, hx1, hx2, List.take_append, List.take_of_length_le (by rw [hll]; omega), hll]
  -- the cells
  have hpc : ∀ p q, q < T.es → (xs.take (i * T.es + j) ++ us ++ xs.drop (i * T.es + j + us.length))[p * T.es + q]? = if p = i ∧ j ≤ q ∧ q < j + us.length then us[q - j]? else xs[p * T.es + q]? := by
    intro p q hq
    rw [piece_get xs us _ (by omega)]
    by_cases hp : p = i
    · subst hp
      by_cases hc : j ≤ q ∧ q < j + us.length
      · rw [if_pos (by omega), if_pos ⟨rfl, hc⟩]; congr 1; omega
      · rw [if_neg (by omega), if_neg (fun hh => hc hh.2)]
    · rw [if_neg (fun hh => ?_), if_neg (fun hh => hp hh.1)]
      rcases Nat.lt_or_gt_of_ne hp with h1 | h1
      · have := Nat.mul_le_mul_right T.es (show p + 1 ≤ i from h1)
        rw [Nat.succ_mul] at this; omega
      · have := Nat.mul_le_mul_right T.es (show i + 1 ≤ p from h1)
        rw [Nat.succ_mul] at this; omega
  have hdc : ∀ q, (row.take j ++ ds ++ row.drop (j + ds.length))[q]? = if j ≤ q ∧ q < j + ds.length then ds[q - j]? else row[q]? := fun q => piece_get row ds j (by omega) q
  have hrlen : (row.take j ++ ds ++ row.drop (j + ds.length)).length = T.es := by simp; omega
  have hvl : vs'.length = vs.length := by
    rcases hn with ⟨_, rfl, _⟩ | ⟨_, _, u, _, _, _, _, _, _, _, rfl, _⟩
    · rfl
    · simp
  have hdis := h.dis
  refine ⟨h.c2, h.es2, ?_, by rw [hvl, List.length_set]; exact h.vl, fun row' hr' => ?_, ⟨_, by rw [List.length_set]; exact hown, fun p row' hp => ?_⟩, ?_⟩
  · rw [List.length_set]
    have := h.le
    rcases hn with ⟨rfl, _⟩ | ⟨_, rfl, _⟩ <;> omega
  · rcases List.mem_or_eq_of_mem_set hr' with h1 | h1
    · exact h.len row' h1
    · rw [h1]; exact hrlen
  · by_cases hpi : p = i
    · subst hpi
      rw [List.getElem?_set, if_pos rfl, if_pos hil] at hp
      injection hp with hp; subst hp
      obtain ⟨⟨rws0, u0, uc, g1, g2, g3, g4⟩, g5⟩ := h2 p row hrow
      refine ⟨?_, fun q x y hq hx hy => ?_⟩
      · rcases hn with ⟨rfl, rfl, hno⟩ | ⟨hin, rfl, u, ux, rws, q, hq, hd, hu, hsu, rfl, ho, hap⟩
        · refine ⟨rws0, u0, uc, ?_, g2, ?_, ?_⟩
          · rw [hdc, if_neg (fun hh => hno (T.c2 - j) (by omega) (by omega))]; exact g1
          · rw [hpc p T.c2 h.c2, if_neg (fun hh => hno (T.c2 - j) (by omega) (by omega))]; exact g3
          · rcases g4 with ⟨a, b⟩ | ⟨a, b⟩
            · obtain ⟨hs0, z0, he0, b⟩ := b
              refine .inl ⟨a, hs0, z0, he0, b.mono hmono (fun _ h _ => h) (fun b hb => hwo b (fun e => ?_))⟩
              exact h.dis.1 p u0 b a g2 hb (by rw [e]; rfl)
            · exact .inr ⟨a, b.mono hmono (fun _ h _ => h)⟩
        · have hql : q < ds.length := (List.getElem?_eq_some_iff.mp hd).1
          refine ⟨.arr rws, u, ux, ?_, ?_, ?_, .inl ⟨by omega, hsu, rws, rfl, ho.mono hmono (fun _ h _ => h) (fun b hb => hwo b (hap b hb).1)⟩⟩
          · rw [hdc, if_pos (by omega), ← hq, Nat.add_sub_cancel_left]; exact hd
          · rw [List.getElem?_set, if_pos rfl, if_pos (by rw [h.vl]; exact hil)]
          · rw [hpc p T.c2 h.c2, if_pos ⟨rfl, by omega, by omega⟩, ← hq, Nat.add_sub_cancel_left]; exact hu
      · have hqe : q < T.es := by rw [← hrlen]; exact (List.getElem?_eq_some_iff.mp hx).1
        rw [hdc] at hx
        rw [hpc p q hqe] at hy
        by_cases hc : j ≤ q ∧ q < j + ds.length
        · rw [if_pos hc] at hx
          rw [if_pos ⟨rfl, by omega⟩] at hy
          exact (hds (q - j) x y (by omega) hx hy).mono hmono (fun _ h _ => h)
        · rw [if_neg hc] at hx
          rw [if_neg (fun hh => hc (by omega))] at hy
          exact (g5 q x y hq hx hy).mono hmono (fun _ h _ => h)
    · rw [List.getElem?_set_ne (fun e => hpi e.symm)] at hp
      obtain ⟨⟨rws0, u0, uc, g1, g2, g3, g4⟩, g5⟩ := h2 p row' hp
      have hre : row'.length = T.es := h.len row' (List.mem_of_getElem? hp)
      refine ⟨⟨rws0, u0, uc, g1, ?_, ?_, ?_⟩, fun q x y hq hx hy => ?_⟩
      · rcases hn with ⟨_, rfl, _⟩ | ⟨_, _, u, _, _, _, _, _, _, _, rfl, _⟩
        · exact g2
        · rw [List.getElem?_set_ne (fun e => hpi e.symm)]; exact g2
      · rw [hpc p T.c2 h.c2, if_neg (fun hh => hpi hh.1)]; exact g3
      · rcases g4 with ⟨a, b⟩ | ⟨a, b⟩
        · obtain ⟨hs0, z0, he0, b⟩ := b
          refine .inl ⟨?_, hs0, z0, he0, b.mono hmono (fun _ h _ => h) (fun b hb => hwo b (fun e => ?_))⟩
          · rcases hn with ⟨rfl, _⟩ | ⟨_, rfl, _⟩ <;> omega
          · exact h.dis.1 p u0 b a g2 hb (by rw [e]; rfl)
        · refine .inr ⟨?_, b.mono hmono (fun _ h _ => h)⟩
          rcases hn with ⟨rfl, _⟩ | ⟨hin, rfl, _⟩ <;> omega
      · have hqe : q < T.es := by rw [← hre]; exact (List.getElem?_eq_some_iff.mp hx).1
        rw [hpc p q hqe, if_neg (fun hh => hpi hh.1)] at hy
        exact (g5 q x y hq hx hy).mono hmono (fun _ h _ => h)
  · rcases hn with ⟨rfl, rfl, _⟩ | ⟨hin, rfl, u, ux, rws, q, hq, hd, hu, hsu, rfl, ho, hap⟩
    · exact h.dis
    · have back : ∀ {p : Nat} {z : Value}, p < max n (i + 1) → (vs.set i u)[p]? = some z → (p = i ∧ z = u) ∨ (p ≠ i ∧ p < n ∧ vs[p]? = some z) := by
        intro p z hp hz
        by_cases hpi : p = i
        · subst hpi
          rw [List.getElem?_set, if_pos rfl] at hz
          split at hz
          · injection hz with hz; exact .inl ⟨rfl, hz.symm⟩
          · simp at hz
        · rw [List.getElem?_set_ne (fun e => hpi e.symm)] at hz
          exact .inr ⟨hpi, by omega, hz⟩
      refine ⟨fun p z b hp hz hb => ?_, fun p q' z z' b hp hq' hz hz' hb hb' => ?_⟩
      · rcases back hp hz with ⟨_, rfl⟩ | ⟨_, h1, h2⟩
        · intro e
          have : g = b := by simpa [Value.ownBlock] using e
          exact (hap b hb).1 this.symm
        · exact h.dis.1 p z b h1 h2 hb
      · rcases back hp hz with ⟨rfl, rfl⟩ | ⟨_, h1, h2⟩ <;> rcases back hq' hz' with ⟨rfl, rfl⟩ | ⟨_, h3, h4⟩
        · rfl
        · exact absurd hb' ((hap b hb).2 q' z' h3 h4)
        · exact absurd hb ((hap b hb').2 p z h1 h2)
        · exact h.dis.2 p q' z z' b h1 h3 h2 h4 hb hb'

omit DW in
/-- A slice in a row written in place. -/
theorem NstRel.inner {i g m cap : Nat} {row : List D} {rws rws' : List (List D)} {cs : Array Value} (h : NstRel w S v T n vs rows) (hi : i < n) (hrow : rows[i]? = some row) (hc : row[T.c2]? = some (.arr rws)) (hu : vs[i]? = some (.slice (some ⟨g, 0, none⟩) m cap))
    (hw : ∀ b, b ≠ g → w'.heap[b]? = w.heap[b]?) (ho : NOwn w' S T.e2 T.es2 rws' (.slice (some ⟨g, 0, none⟩) m cap)) (hS : ¬ S g) : NstRel w' S v T n vs (rows.set i (row.set T.c2 (.arr rws'))) := by
  obtain ⟨xs, how, h2⟩ := h.rep
  have hmono : ∀ b, S b → b < w.heap.size → w'.heap[b]? = w.heap[b]? := fun b hb _ => hw b (fun e => hS (e ▸ hb))
  have hil : i < rows.length := (List.getElem?_eq_some_iff.mp hrow).1
  have hrl : row.length = T.es := h.len row (List.mem_of_getElem? hrow)
  refine ⟨h.c2, h.es2, by rw [List.length_set]; exact h.le, by rw [List.length_set]; exact h.vl, fun row' hr' => ?_, ⟨xs, ?_, fun p row' hp => ?_⟩, h.dis⟩
  · rcases List.mem_or_eq_of_mem_set hr' with h1 | h1
    · exact h.len row' h1
    · rw [h1, List.length_set]; exact hrl
  · rw [List.length_set]
    exact owns_kept how fun b hb => hw b fun e => h.dis.1 i _ g hi hu rfl (e ▸ hb)
  · by_cases hpi : p = i
    · subst hpi
      rw [List.getElem?_set, if_pos rfl, if_pos hil] at hp
      injection hp with hp; subst hp
      obtain ⟨⟨rws0, u0, uc, g1, g2, g3, g4⟩, g5⟩ := h2 p row hrow
      rw [hu] at g2; injection g2 with g2; subst g2
      have hsu : SlOf (.slice (some ⟨g, 0, none⟩) m cap) uc := by
        rcases g4 with ⟨_, h0, _⟩ | ⟨h0, _⟩
        · exact h0
        · omega
      refine ⟨⟨.arr rws', _, uc, ?_, hu, g3, .inl ⟨hi, hsu, rws', rfl, ho⟩⟩, fun q x y hq hx hy => ?_⟩
      · rw [List.getElem?_set, if_pos rfl, if_pos (by rw [hrl]; exact h.c2)]
      · rw [List.getElem?_set_ne (fun e => hq e.symm)] at hx
        exact (g5 q x y hq hx hy).mono hmono (fun _ h _ => h)
    · rw [List.getElem?_set_ne (fun e => hpi e.symm)] at hp
      obtain ⟨⟨rws0, u0, uc, g1, g2, g3, g4⟩, g5⟩ := h2 p row' hp
      refine ⟨⟨rws0, u0, uc, g1, g2, g3, ?_⟩, fun q x y hq hx hy => (g5 q x y hq hx hy).mono hmono (fun _ h _ => h)⟩
      rcases g4 with ⟨a, b⟩ | ⟨a, b⟩
      · obtain ⟨hs0, z0, he0, b⟩ := b
        exact .inl ⟨a, hs0, z0, he0, b.mono hmono (fun _ h _ => h) fun b' hb => hw b' fun e => hpi (h.dis.2 p i u0 _ g a hi g2 hu (e ▸ hb) rfl)⟩
      · exact .inr ⟨a, b.mono hmono (fun _ h _ => h)⟩

omit DW in
/-- A row of one's own, its slices data so far. -/
theorem NstRel.of_arr {e : TypeId} {es : Nat} {xs : List Value} (hc : T.c2 < T.es) (h2 : 0 < T.es2) (hl : ∀ row ∈ rows, row.length = T.es) (how : ownsB w 0 T.e T.es v rows.length xs) (hrep : RepL w S rows.flatten xs) :
    NstRel w S v T 0 ((List.range rows.length).map fun i => xs.getD (i * T.es + T.c2) undef) rows := by
  have hxl : xs.length = rows.length * T.es := how.1
  refine ⟨hc, h2, Nat.zero_le _, by simp, hl, ⟨xs, how, fun i row hi => ?_⟩, fun i u b h => absurd h (Nat.not_lt_zero _), fun i j u u' b h => absurd h (Nat.not_lt_zero _)⟩
  have hil : i < rows.length := (List.getElem?_eq_some_iff.mp hi).1
  have hrl : row.length = T.es := hl row (List.mem_of_getElem? hi)
  have hm : (i + 1) * T.es ≤ rows.length * T.es := Nat.mul_le_mul_right _ hil
  rw [Nat.succ_mul] at hm
  have hxg : xs[i * T.es + T.c2]? = some (xs.getD (i * T.es + T.c2) undef) := by rw [List.getD_eq_getElem?_getD, List.getElem?_eq_getElem (by omega)]; rfl
  refine ⟨⟨row[T.c2]'(by omega), xs.getD (i * T.es + T.c2) undef, xs.getD (i * T.es + T.c2) undef, by rw [List.getElem?_eq_getElem], by rw [List.getElem?_map, List.getElem?_range hil]; rfl, hxg, .inr ⟨Nat.zero_le _, ?_⟩⟩, fun j x y hj hx hy => ?_⟩
  · refine hrep.2 (i * T.es + T.c2) _ _ ?_ hxg
    rw [flat_get rows hl i T.c2 row hi hc, List.getElem?_eq_getElem]
  · have hjl : j < T.es := by rw [← hrl]; exact (List.getElem?_eq_some_iff.mp hx).1
    exact hrep.2 (i * T.es + j) x y (by rw [flat_get rows hl i j row hi hjl]; exact hx) hy

omit DW in
/-- Rows put behind it: with slices of one's own where all before have such, or data. -/
theorem NstRel.app {v' : Value} {xs ys : List Value} {row : List D} {n' : Nat} {u : Value} (h : NstRel w S v T n vs rows) (how0 : ownsB w 0 T.e T.es v rows.length xs)
    (hw : ∀ b, S b → b < w.heap.size → w'.heap[b]? = w.heap[b]?) (hown : ∀ (i : Nat) (u : Value) (b : Nat), i < n → vs[i]? = some u → u.ownBlock = some b → w'.heap[b]? = w.heap[b]? ∧ v'.ownBlock ≠ some b)
    (how : ownsB w' 0 T.e T.es v' (rows.length + 1) (xs ++ ys)) (hrl : row.length = T.es) (hyl : ys.length = T.es) {uy : Value} (hu : ys[T.c2]? = some uy) (hds : ∀ (q : Nat) (x : D) (y : Value), q ≠ T.c2 → row[q]? = some x → ys[q]? = some y → Rep w' S x y)
    (hn : (n' = n ∧ ∃ y0, row[T.c2]? = some y0 ∧ Rep w' S y0 uy) ∨ (n = rows.length ∧ n' = n + 1 ∧ SlOf u uy ∧ ∃ rws, row[T.c2]? = some (.arr rws) ∧ NOwn w' S T.e2 T.es2 rws u ∧
      ∀ b, u.ownBlock = some b → v'.ownBlock ≠ some b ∧ ∀ (i : Nat) (u' : Value), i < n → vs[i]? = some u' → u'.ownBlock ≠ some b)) :
    NstRel w' S v' T n' (vs ++ [u]) (rows ++ [row]) := by
  obtain ⟨xs', how', h2⟩ := h.rep
  have hxx : xs' = xs := by
    rcases how0.2 with ⟨rfl, hz⟩ | ⟨g, cap, cur, rfl, _, ⟨fz, hh, hmk⟩, _, _, _, ht⟩
    · have a := how0.1; have b := how'.1
      rw [hz, Nat.zero_mul] at a b
      rw [List.eq_nil_of_length_eq_zero a, List.eq_nil_of_length_eq_zero b]
    · rcases how'.2 with ⟨he, _⟩ | ⟨g', cap', cur', he, _, ⟨fz, hh', hmk⟩, _, _, _, ht'⟩
      · simp at he
      · simp only [Value.slice.injEq, Option.some.injEq, Addr.mk.injEq, and_true, true_and] at he
        obtain ⟨rfl, _⟩ := he
        rw [hh] at hh'
        simp only [Option.some.injEq, Obj.cells.injEq, and_true] at hh'
        obtain ⟨rfl, _⟩ := hh'
        rw [← ht, ← ht']
  subst hxx
  have hxl : xs'.length = rows.length * T.es := how'.1
  have hvl : vs.length = rows.length := h.vl
  have hle := h.le
  refine ⟨h.c2, h.es2, ?_, by simp [hvl], fun row' hr => ?_, ⟨xs' ++ ys, by rw [List.length_append]; exact how, fun p row' hp => ?_⟩, ?_⟩
  · rw [List.length_append, List.length_singleton]
    rcases hn with ⟨rfl, _⟩ | ⟨h1, rfl, _⟩ <;> omega
  · rcases List.mem_append.mp hr with h1 | h1
    · exact h.len row' h1
    · simp at h1; rw [h1]; exact hrl
  · by_cases hpl : p < rows.length
    · rw [List.getElem?_append_left hpl] at hp
      have hre : row'.length = T.es := h.len row' (List.mem_of_getElem? hp)
      have hm : (p + 1) * T.es ≤ rows.length * T.es := Nat.mul_le_mul_right _ hpl
      rw [Nat.succ_mul] at hm
      obtain ⟨⟨rws0, u0, uc, g1, g2, g3, g4⟩, g5⟩ := h2 p row' hp
      have hc2 := h.c2
      refine ⟨⟨rws0, u0, uc, g1, by rw [List.getElem?_append_left (by omega)]; exact g2, by rw [List.getElem?_append_left (by omega)]; exact g3, ?_⟩, fun q x y hq hx hy => ?_⟩
      · rcases g4 with ⟨a, hs0, z0, he0, b⟩ | ⟨a, b⟩
        · refine .inl ⟨?_, hs0, z0, he0, b.mono hw (fun _ h _ => h) fun b hb => (hown p u0 b a g2 hb).1⟩
          rcases hn with ⟨rfl, _⟩ | ⟨_, rfl, _⟩ <;> omega
        · rcases hn with ⟨rfl, _⟩ | ⟨h1, rfl, _⟩
          · exact .inr ⟨a, b.mono hw (fun _ h _ => h)⟩
          · omega
      · have hqe : q < T.es := by rw [← hre]; exact (List.getElem?_eq_some_iff.mp hx).1
        rw [List.getElem?_append_left (by omega)] at hy
        exact (g5 q x y hq hx hy).mono hw (fun _ h _ => h)
    · rw [List.getElem?_append_right (by omega)] at hp
      have hp0 : p - rows.length = 0 := by
        have := (List.getElem?_eq_some_iff.mp hp).1; simpa using this
      have hpe : p = rows.length := by omega
      subst hpe
      rw [hp0] at hp
      simp only [List.getElem?_cons_zero, Option.some.injEq] at hp
      subst hp
      have hya : ∀ q, (xs' ++ ys)[rows.length * T.es + q]? = ys[q]? := fun q => by rw [List.getElem?_append_right (by omega), hxl, Nat.add_sub_cancel_left]
      have hva : (vs ++ [u])[rows.length]? = some u := by rw [List.getElem?_append_right (by omega), hvl, Nat.sub_self]; rfl
      refine ⟨?_, fun q x y hq hx hy => hds q x y hq hx (by rw [← hya]; exact hy)⟩
      rcases hn with ⟨rfl, y0, k1, k2⟩ | ⟨h1, rfl, hsu, rws, k1, k2, _⟩
      · exact ⟨y0, u, uy, k1, hva, by rw [hya]; exact hu, .inr ⟨hle, k2⟩⟩
      · exact ⟨.arr rws, u, uy, k1, hva, by rw [hya]; exact hu, .inl ⟨by omega, hsu, rws, rfl, k2⟩⟩
  · have back : ∀ {p : Nat} {z : Value}, p < n' → (vs ++ [u])[p]? = some z → (p < n ∧ vs[p]? = some z) ∨ (n = rows.length ∧ p = n ∧ z = u ∧ ∀ b, u.ownBlock = some b → v'.ownBlock ≠ some b ∧ ∀ (i : Nat) (u' : Value), i < n → vs[i]? = some u' → u'.ownBlock ≠ some b) := by
      intro p z hp hz
      rcases hn with ⟨rfl, _⟩ | ⟨h1, rfl, _, rws, _, _, hap⟩
      · rw [List.getElem?_append_left (by omega)] at hz
        exact .inl ⟨hp, hz⟩
      · by_cases hpn : p < n
        · rw [List.getElem?_append_left (by omega)] at hz
          exact .inl ⟨hpn, hz⟩
        · have hpe : p = vs.length := by omega
          subst hpe
          rw [List.getElem?_append_right (Nat.le_refl _), Nat.sub_self] at hz
          simp only [List.getElem?_cons_zero, Option.some.injEq] at hz
          exact .inr ⟨h1, by omega, hz.symm, hap⟩
    refine ⟨fun p z b hp hz hb => ?_, fun p q z z' b hp hq hz hz' hb hb' => ?_⟩
    · rcases back hp hz with ⟨h1, h2⟩ | ⟨_, _, rfl, hap⟩
      · exact (hown p z b h1 h2 hb).2
      · exact (hap b hb).1
    · rcases back hp hz with ⟨h1, h2⟩ | ⟨_, rfl, rfl, hap⟩ <;> rcases back hq hz' with ⟨h3, h4⟩ | ⟨_, h3, rfl, hap'⟩
      · exact h.dis.2 p q z z' b h1 h3 h2 h4 hb hb'
      · exact absurd hb ((hap' b hb').2 p z h1 h2)
      · exact absurd hb' ((hap b hb).2 q z' h3 h4)
      · exact h3.symm

end

section
variable [Bad]
variable {w : World} {A : List (Option RI)} {F : Fo}

omit DW in
theorem nst_at (h : Roots w A F) {r n : Nat} {T : NT} {rows : List (List D)} (hr : root F r = some (.nst T n rows)) : ∃ v vs, A[r]? = some (some (.nst v T n vs)) ∧ NstRel w (Free A) v T n vs rows := by
  obtain ⟨ri, h1, h2⟩ := h.rel r _ (root_get hr)
  cases ri with
  | arr => exact h2.elim
  | box => exact h2.elim
  | nst v T' n' vs =>
    obtain ⟨rfl, rfl, h3⟩ := h2
    exact ⟨v, vs, h1, h3⟩

omit DW in
theorem free_of_own (h : Roots w A F) {r : Nat} {ri : RI} (hA : A[r]? = some (some ri)) {b : Nat} (hb : ri.has b) : Free (A.set r none) b := by
  refine ⟨?_, h.ok b ⟨r, ri, hA, hb⟩⟩
  rintro ⟨s, y, g1, g2⟩
  by_cases hs : s = r
  · subst hs
    rw [List.getElem?_set, if_pos rfl] at g1
    split at g1 <;> simp at g1
  · rw [List.getElem?_set_ne (fun e => hs e.symm)] at g1
    exact hs (h.inj s r y ri b g1 hA g2 hb)

omit DW in
theorem frzN_all (h : Roots w A F) {r n : Nat} {T : NT} {rows : List (List D)} (hr : root F r = some (.nst T n rows)) :
    ∃ v vs, A[r]? = some (some (.nst v T n vs)) ∧ Rep w (Free (A.set r none)) (.arr rows) v ∧ Roots w (A.set r none) (frzF r rows F) ∧
      (∀ {c : V} {u : Value}, RelV w A c u → RelV w (A.set r none) (subV (frzS r rows) (killP r) .bp c) u) := by
  obtain ⟨v, vs, h1, h2⟩ := nst_at h hr
  obtain ⟨hrep, hin⟩ := h2.rep_all (S' := Free (A.set r none)) (fun b hb => free_drop hb) (fun b hb => free_of_own h h1 hb)
  have hsub : ∀ {c : V} {u : Value}, RelV w A c u → RelV w (A.set r none) (subV (frzS r rows) (killP r) .bp c) u := by
    intro c u hc
    refine sub_rel (fun _ _ _ => rfl) (fun b hb _ => free_drop hb) (fun r' v' e' es' hA u' hv' => ?_) (fun r' i j g n cap es' e' hA => ?_) (fun r' j g hA => ?_) (fun r' v' T' n' vs' hA => ?_) hc
    · have hne : r ≠ r' := fun e => by subst e; rw [h1] at hA; simp at hA
      unfold frzS
      split
      · rename_i hb; exact absurd (Nat.eq_of_beq_eq_true hb) hne
      · exact .sl r' v' e' es' (get_drop hA (fun e => hne e.symm)) u' hv'
    · have hne : r ≠ r' := fun e => by subst e; rw [h1] at hA; simp at hA
      unfold killP
      split
      · exact .dead _
      · exact .ptr r' i j g n cap es' e' (get_drop hA (fun e => hne e.symm))
    · exact .bp r' j g (get_drop hA (fun e => by subst e; rw [h1] at hA; simp at hA))
    · unfold frzS
      split
      · rename_i hb
        have := Nat.eq_of_beq_eq_true hb
        subst this
        rw [h1] at hA
        injection hA with hA; injection hA with hA; injection hA with e1 e2 e3 e4
        subst e1; subst e2; subst e3; subst e4
        refine ⟨⟨rows, rfl⟩, hrep, fun i u hi hu => ?_⟩
        obtain ⟨row, y, k1, k2, k3⟩ := hin i u hi hu
        exact ⟨rows, row, y, rfl, k1, k2, k3⟩
      · rename_i hb
        exact subN_of (get_drop hA (fun e => by subst e; simp at hb))
  exact ⟨v, vs, h1, hrep, h.drop h1 hsub, hsub⟩

omit DW in
theorem killN_all (h : Roots w A F) {r : Nat} {ri : RI} (h1 : A[r]? = some (some ri)) (hb : ∀ g, ri ≠ .box g) :
    Roots w (A.set r none) (killF r F) ∧ (∀ {c : V} {u : Value}, RelV w A c u → RelV w (A.set r none) (subV (killS r) (killP r) .bp c) u) := by
  have hsub : ∀ {c : V} {u : Value}, RelV w A c u → RelV w (A.set r none) (subV (killS r) (killP r) .bp c) u := by
    intro c u hc
    refine sub_rel (fun _ _ _ => rfl) (fun b hb _ => free_drop hb) (fun r' v' e' es' hA u' hv' => ?_) (fun r' i j g n cap es' e' hA => ?_) (fun r' j g hA => ?_) (fun r' v' T' n' vs' hA => ?_) hc
    · unfold killS
      split
      · exact .dead _
      · rename_i hb
        exact .sl r' v' e' es' (get_drop hA (fun e => by subst e; simp at hb)) u' hv'
    · unfold killP
      split
      · exact .dead _
      · rename_i hb
        exact .ptr r' i j g n cap es' e' (get_drop hA (fun e => by subst e; simp at hb))
    · exact .bp r' j g (get_drop hA (fun e => by subst e; rw [h1] at hA; injection hA with hA; injection hA with hA; exact hb g hA))
    · exact subN_kill fun hr => get_drop hA fun e => hr e.symm
  exact ⟨h.drop h1 hsub, hsub⟩

omit DW in
/-- A root as its references go, its blocks untouched. -/
theorem rootRel_sub1 {w' : World} {A' : List (Option RI)} {ri : RI} {R : Root} {sl : Nat → V} {pt : Nat → Nat → Nat → V} {bp : Nat → Nat → V} (h : RootRel w A ri R)
    (hw : ∀ b, Free A b → b < w.heap.size → w'.heap[b]? = w.heap[b]?) (hS : ∀ b, Free A b → b < w.heap.size → Free A' b) (hb : ∀ b, ri.has b → w'.heap[b]? = w.heap[b]?)
    (hsub : ∀ {c : V} {v : Value}, RelV w A c v → RelV w' A' (subV sl pt bp c) v) {R' : Root} (hR : subR sl pt bp (some R) = some R') : RootRel w' A' ri R' := by
  cases R with
  | arr e es1 rows =>
    simp only [subR] at hR
    injection hR with hR
    subst hR
    cases ri with
    | box g => exact h.elim
    | nst => exact h.elim
    | arr v e' es =>
      obtain ⟨k0, k00, k1, k2, xs, k3, k4⟩ := h
      exact ⟨k0, k00, k1, k2, xs, owns_kept k3 hb, k4.mono hw hS⟩
  | box cs =>
    simp only [subR] at hR
    injection hR with hR
    subst hR
    cases ri with
    | arr v e es => exact h.elim
    | nst => exact h.elim
    | box g =>
      obtain ⟨cells, e, e1, e2⟩ := h
      refine ⟨cells, e, by rw [hb g rfl]; exact e1, by rw [subL_eq]; simpa using e2.1, fun i c v hc hv => ?_⟩
      rw [subL_eq, List.getElem?_map, Option.map_eq_some_iff] at hc
      obtain ⟨c0, hc0, rfl⟩ := hc
      exact hsub (e2.2 i c0 v hc0 hv)
  | mp K ents =>
    simp only [subR] at hR
    injection hR with hR
    subst hR
    cases ri with
    | arr v e es => exact h.elim
    | nst => exact h.elim
    | box g =>
      obtain ⟨es, clock, e1, e2⟩ := h
      exact ⟨es, clock, by rw [hb g rfl]; exact e1, e2.mono hw hS⟩
  | nst T n rows =>
    simp only [subR] at hR
    injection hR with hR
    subst hR
    cases ri with
    | arr v e es => exact h.elim
    | box g => exact h.elim
    | nst v T' n' vs =>
      obtain ⟨k0, k1, k2⟩ := h
      exact ⟨k0, k1, k2.mono hw hS hb⟩

omit [Bad] in
omit DW in
/-- Two roots gone. -/
theorem get_gone {r r2 s : Nat} {y : RI} (h1 : ((A.set r none).set r2 none)[s]? = some (some y)) : A[s]? = some (some y) ∧ s ≠ r ∧ s ≠ r2 := by
  by_cases hs2 : s = r2
  · subst hs2
    rw [List.getElem?_set, if_pos rfl] at h1
    split at h1 <;> simp at h1
  · rw [List.getElem?_set_ne (fun e => hs2 e.symm)] at h1
    by_cases hs : s = r
    · subst hs
      rw [List.getElem?_set, if_pos rfl] at h1
      split at h1 <;> simp at h1
    · rw [List.getElem?_set_ne (fun e => hs e.symm)] at h1; exact ⟨h1, hs, hs2⟩
omit [Bad] in
omit DW in
theorem get_stay {r r2 s : Nat} {y : RI} (h : A[s]? = some (some y)) (h1 : s ≠ r) (h2 : s ≠ r2) : ((A.set r none).set r2 none)[s]? = some (some y) := by
  rw [List.getElem?_set_ne (fun e => h2 e.symm), List.getElem?_set_ne (fun e => h1 e.symm)]; exact h

omit DW in
/-- Two roots become one new root. -/
theorem Roots.merge {w' : World} (h : Roots w A F) {r r2 : Nat} {x x2 ri : RI} {R : Root} (hr : A[r]? = some (some x)) (hr2 : A[r2]? = some (some x2)) {sl : Nat → V} {pt : Nat → Nat → Nat → V} {bp : Nat → Nat → V}
    (hw : ∀ b, b < w.heap.size → ¬ x.has b → ¬ x2.has b → w'.heap[b]? = w.heap[b]?) (hsize : w.heap.size ≤ w'.heap.size)
    (hblk : ∀ b, ri.has b → (x.has b ∨ x2.has b ∨ w.heap.size ≤ b) ∧ b < w'.heap.size)
    (hsub : ∀ {c : V} {v : Value}, RelV w A c v → RelV w' ((A.set r none).set r2 none ++ [some ri]) (subV sl pt bp c) v) (hR : RootRel w' ((A.set r none).set r2 none ++ [some ri]) ri R) :
    Roots w' ((A.set r none).set r2 none ++ [some ri]) (((mapO (subR sl pt bp) F).set r none).set r2 none ++ [some R]) := by
  rw [mapO_eq]
  have hlA : r < A.length := (List.getElem?_eq_some_iff.mp hr).1
  have hlA2 : r2 < A.length := (List.getElem?_eq_some_iff.mp hr2).1
  have split : ∀ {s : Nat} {y : RI}, ((A.set r none).set r2 none ++ [some ri])[s]? = some (some y) → (A[s]? = some (some y) ∧ s ≠ r ∧ s ≠ r2) ∨ (s = A.length ∧ y = ri) := by
    intro s y h1
    by_cases hs : s < A.length
    · rw [List.getElem?_append_left (by simpa using hs)] at h1; exact .inl (get_gone h1)
    · rw [List.getElem?_append_right (by simpa using hs)] at h1
      have h0 : s - ((A.set r none).set r2 none).length = 0 := by
        have := (List.getElem?_eq_some_iff.mp h1).1; simp at this; simpa using this
      rw [h0] at h1
      simp at h1 h0
      exact .inr ⟨by omega, h1.symm⟩
  have free : ∀ b, Free A b → b < w.heap.size → Free ((A.set r none).set r2 none ++ [some ri]) b := by
    refine fun b hf hlt' => ⟨?_, hf.2⟩
    rintro ⟨s, y, h1, h2⟩
    rcases split h1 with ⟨h3, _⟩ | ⟨_, rfl⟩
    · exact hf.1 ⟨s, y, h3, h2⟩
    · rcases (hblk b h2).1 with h3 | h3 | h3
      · exact hf.1 ⟨r, x, hr, h3⟩
      · exact hf.1 ⟨r2, x2, hr2, h3⟩
      · omega
  have hwf : ∀ b, Free A b → b < w.heap.size → w'.heap[b]? = w.heap[b]? := fun b hf hb => hw b hb (fun e => hf.1 ⟨r, x, hr, e⟩) (fun e => hf.1 ⟨r2, x2, hr2, e⟩)
  have old : ∀ {s : Nat} {y : RI} {b : Nat}, A[s]? = some (some y) → y.has b → s ≠ r → s ≠ r2 → ri.has b → False := by
    intro s y b g1 h3 n1 n2 h4
    rcases (hblk b h4).1 with h5 | h5 | h5
    · exact n1 (h.inj s r y x b g1 hr h3 h5)
    · exact n2 (h.inj s r2 y x2 b g1 hr2 h3 h5)
    · have := h.lt b ⟨s, y, g1, h3⟩; omega
  refine ⟨by simp [h.len], fun s s' y y' b h1 h2 h3 h4 => ?_, fun s S hs => ?_, fun s hs => ?_, fun b ho => ?_, fun b ho => ?_, fun b hb => Nat.lt_of_lt_of_le (h.bad b hb) hsize⟩
  · rcases split h1 with ⟨g1, n1, m1⟩ | ⟨rfl, rfl⟩ <;> rcases split h2 with ⟨g2, n2, m2⟩ | ⟨rfl, rfl⟩
    · exact h.inj s s' y y' b g1 g2 h3 h4
    · exact (old g1 h3 n1 m1 h4).elim
    · exact (old g2 h4 n2 m2 h3).elim
    · rfl
  · by_cases hs1 : s < F.length
    · rw [List.getElem?_append_left (by simpa using hs1)] at hs
      by_cases hsr2 : s = r2
      · subst hsr2
        rw [List.getElem?_set, if_pos rfl] at hs
        split at hs <;> simp at hs
      rw [List.getElem?_set_ne (fun e => hsr2 e.symm)] at hs
      by_cases hsr : s = r
      · subst hsr
        rw [List.getElem?_set, if_pos rfl] at hs
        split at hs <;> simp at hs
      · rw [List.getElem?_set_ne (fun e => hsr e.symm), List.getElem?_map, Option.map_eq_some_iff] at hs
        obtain ⟨R0, h1, h2⟩ := hs
        cases R0 with
        | none => simp [subR] at h2
        | some R0 =>
          obtain ⟨y, g1, g2⟩ := h.rel s R0 h1
          refine ⟨y, by rw [List.getElem?_append_left (by simpa [h.len] using hs1)]; exact get_stay g1 hsr hsr2, ?_⟩
          exact rootRel_sub1 g2 hwf free (fun b hb => hw b (h.lt b ⟨s, y, g1, hb⟩) (fun e => hsr (h.inj s r y x b g1 hr hb e)) (fun e => hsr2 (h.inj s r2 y x2 b g1 hr2 hb e))) hsub h2
    · rw [List.getElem?_append_right (by simpa using hs1)] at hs
      have h0 : s - (((F.map (subR sl pt bp)).set r none).set r2 none).length = 0 := by
        have := (List.getElem?_eq_some_iff.mp hs).1; simp at this; simpa using this
      rw [h0] at hs
      simp at hs h0
      subst hs
      have : s = A.length := by rw [h.len]; omega
      subst this
      exact ⟨ri, by simp, hR⟩
  · by_cases hs1 : s < F.length
    · rw [List.getElem?_append_left (by simpa using hs1)] at hs
      rw [List.getElem?_append_left (by simpa [h.len] using hs1)]
      by_cases hsr2 : s = r2
      · subst hsr2
        rw [List.getElem?_set, if_pos rfl, if_pos (by simpa using hlA2)]
      rw [List.getElem?_set_ne (fun e => hsr2 e.symm)] at hs ⊢
      by_cases hsr : s = r
      · subst hsr
        rw [List.getElem?_set, if_pos rfl, if_pos hlA]
      · rw [List.getElem?_set_ne (fun e => hsr e.symm), List.getElem?_map, Option.map_eq_some_iff] at hs
        obtain ⟨R0, h1, h2⟩ := hs
        cases R0 with
        | none => rw [List.getElem?_set_ne (fun e => hsr e.symm)]; exact h.gone s h1
        | some R0 => cases R0 <;> simp [subR] at h2
    · rw [List.getElem?_append_right (by simpa using hs1)] at hs
      have h0 : s - (((F.map (subR sl pt bp)).set r none).set r2 none).length = 0 := by
        have := (List.getElem?_eq_some_iff.mp hs).1; simp at this; simpa using this
      rw [h0] at hs
      simp at hs
  · obtain ⟨s, y, h1, h2⟩ := ho
    rcases split h1 with ⟨h3, _⟩ | ⟨_, rfl⟩
    · exact Nat.lt_of_lt_of_le (h.lt b ⟨s, y, h3, h2⟩) hsize
    · exact (hblk b h2).2
  · obtain ⟨s, y, h1, h2⟩ := ho
    rcases split h1 with ⟨h3, _⟩ | ⟨_, rfl⟩
    · exact h.ok b ⟨s, y, h3, h2⟩
    · rcases (hblk b h2).1 with h3 | h3 | h3
      · exact h.ok b ⟨r, x, hr, h3⟩
      · exact h.ok b ⟨r2, x2, hr2, h3⟩
      · intro hbad; have := h.bad b hbad; omega

end
end Go.Proofs.YtjnhclnnobejgaaE

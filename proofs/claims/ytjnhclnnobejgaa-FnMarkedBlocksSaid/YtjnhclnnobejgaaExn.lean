/- The engine, between: a new root at a place that was kept for it; conditions: the tables are the program's own. -/
import Derived.Test.YtjnhclnnobejgaaEw
namespace Go.Proofs.YtjnhclnnobejgaaE
open Go.RowKit
set_option linter.unusedVariables false
set_option linter.unusedSimpArgs false
variable [DW : Drw]

section
variable [B : Bad]
variable {E : Env} {P : Program} {w : World} {A : List (Option RI)} {F : Fo} {t : List V} {a : Act} {o : Oper}

omit B in
omit DW in
theorem set_own {A : List (Option RI)} {q b : Nat} {ri : RI} (h : Own (A.set q (some ri)) b) : Own A b ∨ ri.has b := by
  obtain ⟨r, x, h1, h2⟩ := h
  rw [List.getElem?_set] at h1
  split at h1
  · split at h1
    · simp only [Option.some.injEq] at h1; subst h1; exact .inr h2
    · simp at h1
  · exact .inl ⟨r, x, h1, h2⟩
omit B in
omit DW in
theorem set_get {A : List (Option RI)} {q : Nat} {ri : RI} (hA : A[q]? = some none) : ∀ (r : Nat) (x : RI), A[r]? = some (some x) → (A.set q (some ri))[r]? = some (some x) := by
  intro r x h
  rw [List.getElem?_set]
  split
  · rename_i e; subst e; rw [hA] at h; simp at h
  · exact h
omit DW in
theorem set_free {ri : RI} {q : Nat} (hb : ∀ b, ri.has b → w.heap.size ≤ b) : ∀ b, Free A b → b < w.heap.size → Free (A.set q (some ri)) b := by
  refine fun b hf hlt => ⟨fun ho => ?_, hf.2⟩
  rcases set_own ho with h1 | h1
  · exact hf.1 h1
  · have := hb b h1; omega

/-- A new root: nothing of the old turns. -/
theorem Roots.fill {w' : World} (h : Roots w A F) (hw : Below w.heap.size w w') {q : Nat} (hq : A[q]? = some none) {ri : RI} {R : Root}
    (hb : ∀ b, ri.has b → w.heap.size ≤ b ∧ b < w'.heap.size) (hR : RootRel w' (A.set q (some ri)) ri R) : Roots w' (A.set q (some ri)) (F.set q (some R)) := by
  have hql : q < A.length := (List.getElem?_eq_some_iff.mp hq).1
  have free := set_free (A := A) (q := q) (ri := ri) (w := w) (fun b h => (hb b h).1)
  have same : ∀ b, b < w.heap.size → w'.heap[b]? = w.heap[b]? := fun b hb => hw.block b hb
  refine ⟨by simp [h.len], fun r s x y b hx hy hxb hyb => ?_, fun r R' hr => ?_, fun r hr => ?_, fun b ho => ?_, fun b ho => ?_, fun b ho => ?_⟩
  · rw [List.getElem?_set] at hx hy
    split at hx <;> split at hy
    · omega
    · rename_i e1 e2
      try rw [if_pos hql] at hx
      simp only [Option.some.injEq] at hx
      subst hx
      have := h.lt b ⟨s, y, hy, hyb⟩
      have := (hb b hxb).1
      omega
    · rename_i e1 e2
      try rw [if_pos hql] at hy
      simp only [Option.some.injEq] at hy
      subst hy
      have := h.lt b ⟨r, x, hx, hxb⟩
      have := (hb b hyb).1
      omega
    · exact h.inj r s x y b hx hy hxb hyb
  · rw [List.getElem?_set] at hr
    split at hr
    · rename_i e
      subst e
      split at hr
      case isFalse => simp at hr
      simp only [Option.some.injEq] at hr
      subst hr
      exact ⟨ri, by rw [List.getElem?_set, if_pos rfl, if_pos hql], hR⟩
    · obtain ⟨x, g1, g2⟩ := h.rel r R' hr
      exact ⟨x, set_get hq _ _ g1, g2.mono (fun b _ hb => same b hb) free (set_get hq) (fun b hbx => same b (h.lt b ⟨r, x, g1, hbx⟩))⟩
  · rw [List.getElem?_set] at hr ⊢
    split at hr
    · split at hr <;> simp at hr
    · rename_i e
      rw [if_neg e]
      exact h.gone r hr
  · rcases set_own ho with h1 | h1
    · have := h.lt b h1; have := hw.size; omega
    · exact (hb b h1).2
  · rcases set_own ho with h1 | h1
    · exact h.ok b h1
    · intro hbad; have := h.bad b hbad; have := (hb b h1).1; omega
  · exact Nat.lt_of_lt_of_le (h.bad b ho) hw.size

/-- What comes of it on the machine. -/
def GivesN (P : Program) (w : World) (A : List (Option RI)) (t : List V) (a : Act) (o : Oper) (q : Nat) (v : V) (FN : Fo) : Prop :=
  ∃ u ri w', (execOp a.eval o).run P w = .ok (.value u) w' ∧ Roots w' (A.set q (some ri)) FN ∧ Slots w' (A.set q (some ri)) t a.tmps ∧ RelV w' (A.set q (some ri)) v u ∧ Step A w w' ∧ (∀ b, ri.has b → w.heap.size ≤ b)

theorem fill_box (hR : Roots w A F) (hS : Slots w A t a.tmps) {q : Nat} (hq : A[q]? = some none) {cs : List V} {cells : Array Value} (hc : RelL w A cs cells.toList) (ty : TypeId)
    (hrun : (execOp a.eval o).run P w = .ok (.value (.pointer (some ⟨w.heap.size, 0, none⟩))) { w with heap := w.heap.push (.cells cells ty) }) : GivesN P w A t a o q (.bp q 0) (F.set q (some (.box cs))) := by
  have hb := below_push w (.cells cells ty)
  have hg : ∀ b, (RI.box w.heap.size).has b → w.heap.size ≤ b ∧ b < ({ w with heap := w.heap.push (.cells cells ty) } : World).heap.size := by
    intro b h; injection h with h; subst h; simp
  have hmono := fun (b : Nat) (_ : Free A b) (hlt : b < w.heap.size) => hb.block b hlt
  have hfree := set_free (A := A) (q := q) (ri := .box w.heap.size) (w := w) (fun b h => (hg b h).1)
  refine ⟨_, .box w.heap.size, _, hrun, hR.fill hb hq hg ?_, hS.mono hmono hfree (set_get hq), ?_, .of_below hb, fun b h => (hg b h).1⟩
  · exact ⟨cells, ty, push_new _ _, hc.mono hmono hfree (set_get hq)⟩
  · refine .bp _ _ _ ?_
    rw [List.getElem?_set, if_pos rfl, if_pos (List.getElem?_eq_some_iff.mp hq).1]

theorem fill_row (hR : Roots w A F) (hS : Slots w A t a.tmps) {q : Nat} (hq : A[q]? = some none) {e : TypeId} {es : Nat} {rows : List (List D)} {xs : List Value} {cap : Nat} {cells : Array Value} {v : V} {FN : Fo} {fz : Nat × Nat} {w1 : World} (hmk : Mk e cells fz) (hw1 : Below w.heap.size w w1) (hs1 : w1.heap.size = w.heap.size)
    (hk : newQ E e es rows q F (fun v F => some (v, F)) = some (v, FN)) (hes : 0 < es) (hl : ∀ row ∈ rows, row.length = es) (hrep : RepL w (Free A) rows.flatten xs)
    (hcap : rows.length ≤ cap) (hmax : cap ≤ maxLen) (hcs : cells.size = cap * es) (htake : cells.toList.take (rows.length * es) = xs)
    (hrun : (execOp a.eval o).run P w = .ok (.value (.slice (some ⟨w.heap.size, 0, none⟩) rows.length cap)) { w1 with heap := w1.heap.push (.cells cells e fz) }) : GivesN P w A t a o q v FN := by
  have hb : Below w.heap.size w { w1 with heap := w1.heap.push (.cells cells e fz) } := hw1.trans (by have := below_push w1 (.cells cells e fz); rw [hs1] at this; exact this)
  have hnew : ({ w1 with heap := w1.heap.push (.cells cells e fz) } : World).heap[w.heap.size]? = some (.cells cells e fz) := by rw [← hs1]; exact push_new _ _
  have hmono := fun (b : Nat) (_ : Free A b) (hlt : b < w.heap.size) => hb.block b hlt
  have how : ownsB { w1 with heap := w1.heap.push (.cells cells e fz) } 0 e es (.slice (some ⟨w.heap.size, 0, none⟩) rows.length cap) rows.length xs := by
    refine ⟨?_, .inr ⟨w.heap.size, cap, cells, rfl, Nat.zero_le _, ⟨_, hnew, hmk⟩, hcap, hmax, hcs, htake⟩⟩
    rw [← hrep.1, flat_len rows hl]
  unfold newQ at hk
  split at hk
  · simp only [Option.some.injEq, Prod.mk.injEq] at hk
    obtain ⟨rfl, rfl⟩ := hk
    have hg : ∀ b, (RI.arr (.slice (some ⟨w.heap.size, 0, none⟩) rows.length cap) e es).has b → w.heap.size ≤ b ∧ b < ({ w1 with heap := w1.heap.push (.cells cells e fz) } : World).heap.size := by
      intro b h; injection h with h; subst h; simp [hs1]
    have hfree := set_free (A := A) (q := q) (ri := .arr (.slice (some ⟨w.heap.size, 0, none⟩) rows.length cap) e es) (w := w) (fun b h => (hg b h).1)
    refine ⟨_, .arr (.slice (some ⟨w.heap.size, 0, none⟩) rows.length cap) e es, _, hrun, hR.fill hb hq hg ?_, hS.mono hmono hfree (set_get hq), ?_, .of_below hb, fun b h => (hg b h).1⟩
    · exact ⟨rfl, rfl, hes, hl, xs, how, hrep.mono hmono hfree⟩
    · refine .sl _ _ e es ?_ _ (.of _ _ _)
      rw [List.getElem?_set, if_pos rfl, if_pos (List.getElem?_eq_some_iff.mp hq).1]
  · rename_i T hT
    obtain ⟨rfl, rfl, hc, h2⟩ := nstOf_ok hT
    simp only [Option.some.injEq, Prod.mk.injEq] at hk
    obtain ⟨rfl, rfl⟩ := hk
    generalize hvs : ((List.range rows.length).map fun i => xs.getD (i * T.es + T.c2) undef) = vs
    have hg : ∀ b, (RI.nst (.slice (some ⟨w.heap.size, 0, none⟩) rows.length cap) T 0 vs).has b → w.heap.size ≤ b ∧ b < ({ w1 with heap := w1.heap.push (.cells cells T.e fz) } : World).heap.size := by
      rintro b (h | ⟨i, u, h, _⟩)
      · injection h with h; subst h; simp [hs1]
      · exact absurd h (Nat.not_lt_zero _)
    have hfree := set_free (A := A) (q := q) (ri := .nst (.slice (some ⟨w.heap.size, 0, none⟩) rows.length cap) T 0 vs) (w := w) (fun b h => (hg b h).1)
    refine ⟨_, .nst (.slice (some ⟨w.heap.size, 0, none⟩) rows.length cap) T 0 vs, _, hrun, hR.fill hb hq hg ?_, hS.mono hmono hfree (set_get hq), ?_, .of_below hb, fun b h => (hg b h).1⟩
    · refine ⟨rfl, rfl, ?_⟩
      have h0 := NstRel.of_arr (e := T.e) (es := T.es) hc h2 hl how (hrep.mono hmono hfree)
      rw [hvs] at h0
      exact h0
    · refine .nsl _ _ T 0 vs ?_ _ (.of _ _ _)
      rw [List.getElem?_set, if_pos rfl, if_pos (List.getElem?_eq_some_iff.mp hq).1]

theorem opN_sound (hE : EnvOK E P) (hR : Roots w A F) (hS : Slots w A t a.tmps) {q : Nat} {v : V} {FN : Fo} (h : opN E t o q F (fun v F => some (v, F)) = some (v, FN)) : A[q]? = some none ∧ GivesN P w A t a o q v FN := by
  unfold opN at h
  split at h
  case h_2 => simp at h
  rename_i hq hlt
  have hlt2 : q < F.length := by simpa [Nat.blt_eq] using hlt
  have hFq : F[q]? = some none := by
    have e : ∀ (F : Fo) (r : Nat), root F r = (F[r]?).join := by
      intro F
      induction F with
      | nil => intro r; simp [root]
      | cons R F ih =>
        intro r
        cases r with
        | zero => simp [root]
        | succ r => simp only [root, List.getElem?_cons_succ]; exact ih r
    rw [e, List.getElem?_eq_getElem hlt2] at hq
    rw [List.getElem?_eq_getElem hlt2]
    simpa using hq
  have hA := hR.gone q hFq
  refine ⟨hA, ?_⟩
  split at h
  · rename_i ty ho
    split at h
    case h_2 => simp at h
    rename_i i hi
    simp only [Option.some.injEq, Prod.mk.injEq] at h
    obtain ⟨rfl, rfl⟩ := h
    obtain ⟨ti, h1, h2, h3, h4, h5⟩ := hE.ty _ _ hi
    refine fill_box hR hS hA (zeros_rel w A i.zero) ty ?_
    simp only [execOp, ho, Sem.run_bind, Instr.alloc, zeroValue, typeInfo, run_program, Result.andThen_ok, h1, Sem.run_pure, h5, newVar, newRow, run_newObj]
  · rename_i ty x ho
    split at h
    case h_2 => simp at h
    rename_i hl
    simp only [Option.some.injEq, Prod.mk.injEq] at h
    obtain ⟨rfl, rfl⟩ := h
    refine fill_box hR hS hA (cells_rel (val_rel hS x) hl).1 ty ?_
    simp only [execOp, ho, Sem.run_bind, Instr.box, newVar, newRow, run_newObj, Result.andThen_ok, Sem.run_pure]
  · rename_i ty l c ho
    split at h
    case h_2 => simp at h
    rename_i i hi
    split at h
    case h_2 => simp at h
    rename_i e hd
    split at h
    case h_2 => simp at h
    rename_i j hj
    split at h
    case h_2 => simp at h
    rename_i k1 n k2 m hln hcn
    split at h
    case h_2 => simp at h
    rename_i c1
    simp only [mkOk, Bool.and_eq_true, decide_eq_true_eq] at c1
    obtain ⟨n0, nm, hby, c4, c5⟩ := c1
    split at h
    case h_2 => simp at h
    rename_i z hz
    split at h
    case h_2 => simp at h
    rename_i c6 c7
    obtain ⟨_, _, h2, _⟩ := hE.ty _ _ hi
    rw [hd] at h2
    obtain ⟨tj, g1, g2, g3, g4, g5⟩ := hE.ty _ _ hj
    have m0 : 0 ≤ m := by omega
    have hsz : 0 < j.size := by
      have := c4; simp [Nat.blt_eq] at this; exact this
    have hb0 : 0 < j.bytes := by
      have := c5; simp [Nat.blt_eq] at this; exact this
    have hzl : z.length = j.size := Nat.eq_of_beq_eq_true c6
    have hn : m.toNat ≤ 140737488355328 := Nat.le_trans (Nat.le_mul_of_pos_left _ hb0) hby
    have hnm : n.toNat ≤ m.toNat := by omega
    have hzr := toDs_rep hz (zeros_rel w A j.zero)
    have hzc : j.zero.cells.size = j.size := by
      have := hzr.1; simp at this; omega
    have hrun := run_make (P := P) w ty e tj j.zero h2 g1 g5 k1 k2 n m n0 nm (by
      rw [g4]
      have : ((j.bytes * m.toNat : Nat) : Int) ≤ ((140737488355328 : Nat) : Int) := Int.ofNat_le.mpr hby
      rw [Int.natCast_mul, Int.toNat_of_nonneg m0] at this
      omega) (by omega)
    rw [g3] at hrun
    have hl : ∀ row ∈ List.replicate n.toNat z, row.length = j.size := fun row h => by rw [List.eq_of_mem_replicate h]; exact hzl
    have hfl := made_flat j.zero.cells (by omega) m.toNat
    rw [hzc] at hfl
    refine fill_row (e := e) (es := j.size) (rows := List.replicate n.toNat z) (xs := (List.replicate n.toNat j.zero.cells.toList).flatten) (cap := m.toNat) (cells := madeCells j.zero.cells (m.toNat * j.size))
      hR hS hA (.z _ _) (Below.refl _ w) rfl h hsz hl (rep_flat hzr n.toNat) (by simpa using hnm) (by unfold maxLen; omega) (by simp [madeCells]) ?_ ?_
    · rw [hfl]
      simp only [List.length_replicate]
      have hfn : (List.replicate n.toNat j.zero.cells.toList).flatten.length = n.toNat * j.size := by
        rw [flat_len (List.replicate n.toNat j.zero.cells.toList) (es := j.size) (fun row h => by rw [List.eq_of_mem_replicate h]; simpa using hzc)]; simp
      rw [show m.toNat = n.toNat + (m.toNat - n.toNat) by omega, ← List.replicate_append_replicate, List.flatten_append, List.take_append_of_le_length (by omega)]
      exact List.take_of_length_le (by omega)
    · simp only [execOp, ho, Sem.run_bind, eval_lit hS hln, eval_lit hS hcn, hrun, Result.andThen_ok, Sem.run_pure, List.length_replicate]
      rfl
  · rename_i ty n ps ho
    split at h
    case h_2 => simp at h
    rename_i i hi
    split at h
    case h_2 => simp at h
    rename_i e hd
    split at h
    case h_2 => simp at h
    rename_i j hj
    split at h
    case h_2 => simp at h
    rename_i c0
    have hsz : 0 < j.size := by have := c0; simp [Nat.blt_eq] at this; exact this
    obtain ⟨rows, h1, hfr⟩ := datParts_frz (Q := List (List D) × List V × Fo) (F := F) _ _ _ h
    obtain ⟨rows', t', F', A', q1, g2, g3, g4, g5, g6, g7, g8, g9, g10⟩ := frzParts_sound (w := w) (a := a) _ _ _ _ _ A _ (hfr fun rows t F => some (rows, t, F)) hR hS
    simp only [Option.some.injEq, Prod.mk.injEq] at q1
    obtain ⟨rfl, rfl, rfl⟩ := q1
    split at h1
    case h_2 => simp at h1
    rename_i c1 c2
    have keep : ∀ (r : Nat) (x : RI), A[r]? = some (some x) → A'[r]? = some (some x) := fun r x hx => by
      rcases g8.old r x hx with h1 | h1
      · exact h1
      · exfalso
        have hr : r < F'.length := by rw [← hR.len]; exact (List.getElem?_eq_some_iff.mp hx).1
        cases hFr : F'[r]? with
        | none => rw [List.getElem?_eq_getElem hr] at hFr; simp at hFr
        | some R =>
          cases R with
          | none => rw [hR.gone r hFr] at hx; simp at hx
          | some R =>
            obtain ⟨ri, k1, _⟩ := g2.rel r R hFr
            rw [h1] at k1; simp at k1
    have g6 := g6.mono (w' := w) (S' := Free A) (fun _ _ _ => rfl) (fun b hb _ => ⟨fun ⟨r, x, hx, hbx⟩ => hb.1 ⟨r, x, keep r x hx, hbx⟩, hb.2⟩)
    have hn : rows'.length = n := Nat.eq_of_beq_eq_true c1
    have hsm : n * j.size ≤ 16777216 := Nat.le_of_ble_eq_true c2
    obtain ⟨_, _, h2, _⟩ := hE.ty _ _ hi
    rw [hd] at h2
    obtain ⟨tj, q1, q2, q3, q4, q5⟩ := hE.ty _ _ hj
    have hps : ps.toList.length = n := by rw [← g5, hn]
    have hfl : (ps.toList.map fun p => (a.eval p.2).cells.toList).flatten.length = n * j.size := by
      rw [← g6.1, flat_len rows' g4, hn]
    refine fill_row (e := e) (es := j.size) (rows := rows') (xs := (ps.toList.map fun p => (a.eval p.2).cells.toList).flatten) (cap := n) (cells := (ps.toList.map fun p => (a.eval p.2).cells.toList).flatten.toArray)
      hR hS hA (.z _ _) (Below.refl _ w) rfl h1 hsz g4 g6 (by omega) (by
        have := Nat.le_mul_of_pos_right n hsz
        unfold maxLen; omega) (by simpa using hfl) (by
        rw [List.toList_toArray]; exact List.take_of_length_le (by rw [hfl, hn]; exact Nat.le_refl _)) ?_
    rw [hn]
    have hev : ((ps.map fun p => (p.1, a.eval p.2)).toList.map fun p => p.2.cells.toList).flatten = (ps.toList.map fun p => (a.eval p.2).cells.toList).flatten := by
      simp [List.map_map, Function.comp_def]
    by_cases hn0 : n = 0
    · have hps0 : ps = #[] := by apply Array.ext'; exact List.eq_nil_of_length_eq_zero (by omega)
      subst hps0
      subst hn0
      have hr0 : ∀ f : Nat → Value, Array.map f (Array.range 0) = #[] := fun f => Array.eq_empty_of_size_eq_zero (by simp)
      simp [execOp, ho, Instr.buildSlice, run_underlying h2, sizeOf, typeInfo, q1, q3, Instr.fill, newRow, hr0]
    · have hpos : 0 < n * j.size := Nat.mul_pos (by omega) hsz
      have hfill := fill_whole j.size (ps.map fun p => (p.1, a.eval p.2)).toList 0 [] ((Array.range (n * j.size)).map (j.zero.cells[· % j.zero.cells.size]!)).toList (by simp) (by simp [hps]) (fun l p hp => by
        simp only [Array.toList_map, List.getElem?_map, Option.map_eq_some_iff] at hp
        obtain ⟨p0, hp0, rfl⟩ := hp
        exact g7 l p0 hp0)
      simp only [List.nil_append, Array.toArray_toList] at hfill
      rw [hev] at hfill
      have hrun := run_buildSlice (P := P) w ty e n (ps.map fun p => (p.1, a.eval p.2)) _ tj j.zero h2 q1 q5 (by rw [q3]; omega) (by rw [q3]; omega) (by rw [q3]; exact hfill)
      simp only [execOp, ho, Sem.run_bind]
      have hmap : (ps.map fun x => match x with | (i, x) => (i, a.eval x)) = ps.map fun p => (p.1, a.eval p.2) := rfl
      rw [hmap, hrun]
      rfl
  · rename_i src dst x ho
    obtain ⟨e, s, h1, h2, hu8, hrun⟩ := cvt_facts (w := w) (A := A) (a := a) (P := P) hE hS ho h
    have hge := grownCap_ge w s.size 0 e
    have hle := grownCap_le_maxLen w s.size 0 e h2
    have hsz := bytesRow_size s _ hge
    refine fill_row (e := e) (es := 1) (rows := byteRowsOf s) (xs := s.data.toList.map fun b => Value.int .u8 b.toNat) (cap := grownCap w s.size 0 e) (cells := bytesRow s (grownCap w s.size 0 e)) (w1 := w.drew) (fz := ((bytesRow s (grownCap w s.size 0 e)).size, (bytesRow s (grownCap w s.size 0 e)).size + 1)) 
      hR hS hA (.inr ⟨Nat.le_refl _, hu8⟩) ⟨fun _ => Nat.le_succ _, rfl, rfl, rfl, Nat.le_refl _, fun _ _ => rfl⟩ rfl h1 Nat.one_pos (byteRows_one s) (byteRows_rep _ _ _) (by rw [byteRows_len]; exact hge) hle hsz (bytesRow_take s _) ?_
    rw [hrun, byteRows_len]
  · rename_i c ho
    split at h
    case h_2 => simp at h
    rename_i x y tx ty hc hx hty
    have hargs : c.args = #[x, y] := by apply Array.ext'; simpa using hx
    have htys : c.argTypes = #[tx, ty] := by apply Array.ext'; simpa using hty
    split at h
    case h_2 => simp at h
    rename_i i j hi hj
    split at h
    case h_2 => simp at h
    rename_i e e' hd hd'
    split at h
    case h_2 => simp at h
    rename_i p hp hxy
    have : tx = ty := Nat.eq_of_beq_eq_true hxy
    subst this
    split at h
    case h_2 => simp at h
    rename_i news hvx hnews
    split at h
    case h_2 => simp at h
    rename_i c2 c3 c4
    split at h
    case h_2 => simp at h
    rename_i c5
    simp only [Option.some.injEq, Prod.mk.injEq] at h
    obtain ⟨rfl, rfl⟩ := h
    have hes : 0 < p.size := by have := c2; simp [Nat.blt_eq] at this; exact this
    have hb0 : 0 < p.bytes := by have := c3; simp [Nat.blt_eq] at this; exact this
    have hby : (0 + news.length) * p.bytes ≤ 140737488355328 := by rw [Nat.zero_add]; exact Nat.ble_eq.mp c4
    have h63 : 0 + news.length ≤ maxLen := by
      have := Nat.le_trans (Nat.le_mul_of_pos_right (0 + news.length) hb0) hby
      unfold maxLen; omega
    obtain ⟨_, _, h2, _⟩ := hE.ty _ _ hi
    rw [hd] at h2
    obtain ⟨tq, g1, g2, g3, g4, g5⟩ := hE.ty _ _ hp
    have hv := val_rel hS x
    rw [hvx] at hv
    generalize hex : a.eval x = ux at hv
    cases hv with
    | e0 pp =>
    have hnl := allLen_all c5
    obtain ⟨ys, hyl, hyu, hyrep⟩ : ∃ ys : List Value, ys.length = news.length * p.size ∧
        ((ys = [] ∧ ∃ p cap, a.eval y = .slice p 0 cap ∧ (p = none → cap = 0)) ∨ ∃ (ad : Addr) (cap : Nat), a.eval y = .slice (some ad) news.length cap ∧ ∀ j x, ys[j]? = some x → w.cell? (ad.add j) = some x) ∧
        RepL w (Free A) news.flatten ys := by
      rcases rows_cells hR (val_rel hS y) hnews with ⟨rfl, p, cap, hu, hp⟩ | ⟨b, o', es', cap, ys, hu, hes', hl', hm', hrep', hc'⟩
      · exact ⟨[], by simp, .inl ⟨rfl, p, cap, hu, hp⟩, by simpa using RepL.nil w (Free A)⟩
      · refine ⟨ys, ?_, .inr ⟨⟨b, o', none⟩, cap, hu, fun j x hj => by rw [add_at]; exact hc' j x hj⟩, hrep'⟩
        rw [← hrep'.1, flat_len news hnl]
    have hone : ∀ u ∈ ys, u.oneCell' = true := repL_one hyrep
    obtain ⟨v', u', w', k1, kS, k2, k3, k4⟩ := append_run2 (P := P) (ty := o.type) h2 g1 g5 g3 (by rw [hE.zero _ _ hp]) hes (ownsB_nil w 0 e p.size) (v := .slice pp 0 0) ⟨⟨_, _, _, rfl⟩, .inr ⟨rfl, pp, rfl⟩⟩ hyl hone hyu h63 (by rw [g4]; exact hby)
    have hrun : (execOp a.eval o).run P w = .ok (.value u') w' := by
      simp only [execOp, ho, Sem.run_bind, resolve, hc, hargs, htys]
      simp [hex, invoke, builtin, k1]
    have hb : Below w.heap.size w w' := Below.of' ((Go.RowKit.Below.refl _ w).grown k3 (Nat.le_refl _) (fun k hk => by simp [Value.ownBlock] at hk)) (fun _ => run_drawn _ hrun)
    have hg : ∀ b, (RI.arr v' e p.size).has b → w.heap.size ≤ b ∧ b < w'.heap.size := by
      intro b h
      have h1 : w.heap.size ≤ b := by
        rcases k4 b h with h1 | h1
        · simp [Value.ownBlock] at h1
        · exact h1
      refine ⟨h1, ?_⟩
      rcases k2.2 with ⟨rfl, _⟩ | ⟨g, _, _, rfl, _, ⟨_, hh, _⟩, _⟩
      · simp [RI.has, Value.ownBlock] at h
      · simp only [RI.has, Value.ownBlock, Option.some.injEq] at h
        subst h
        exact (Array.getElem?_eq_some_iff.mp hh).1
    have hmono := fun (b : Nat) (_ : Free A b) (hlt : b < w.heap.size) => hb.block b hlt
    have hfree := set_free (A := A) (q := q) (ri := .arr v' e p.size) (w := w) (fun b h => (hg b h).1)
    refine ⟨_, .arr v' e p.size, _, hrun, hR.fill hb hA hg ?_, hS.mono hmono hfree (set_get hA), ?_, .of_below hb, fun b h => (hg b h).1⟩
    · refine ⟨rfl, rfl, hes, hnl, ys, ?_, hyrep.mono hmono hfree⟩
      simpa using k2
    · refine .sl _ v' e p.size ?_ _ kS
      rw [List.getElem?_set, if_pos rfl, if_pos (List.getElem?_eq_some_iff.mp hA).1]
  · simp at h

end
end Go.Proofs.YtjnhclnnobejgaaE

/- The engine, seventh part: the operations that make and write memory do on the machine what the interpreter says; conditions: the tables are the program's own. -/
import Derived.Test.YtjnhclnnobejgaaEfn
import Derived.ArgAppend
namespace Go.Proofs.YtjnhclnnobejgaaE
open Go.RowKit
set_option linter.unusedVariables false
variable [DW : Drw]
variable [Bad]
set_option linter.unusedSimpArgs false

/-- What the interpreter hands on, and that the machine comes to it. -/
def GivesE {R : Type} (P : Program) (w : World) (A : List (Option RI)) (a : Act) (o : Oper) (k : V → List V → Fo → Option R) (r : R) : Prop :=
  ∃ v u t' F' A' w', k v t' F' = some r ∧ ((execOp a.eval o).run P w = .ok (.value u) w' ∨ ((execOp a.eval o).run P w = .ok .skip w' ∧ u = undef)) ∧
    Roots w' A' F' ∧ Slots w' A' t' a.tmps ∧ RelV w' A' v u ∧ Step A w w' ∧ Grows A A' w ∧ (∀ (r : Nat), A[r]? = some none → A'[r]? = some none)

section
variable {R : Type} {E : Env} {P : Program} {w : World} {A : List (Option RI)} {F : Fo} {t : List V} {a : Act} {o : Oper} {k : V → List V → Fo → Option R} {r : R}

omit [Bad] in
omit DW in
theorem none_append {A : List (Option RI)} {x : Option RI} : ∀ (r : Nat), A[r]? = some none → (A ++ [x])[r]? = some none := fun r h => get_append h

omit [Bad] in
theorem below_push (w : World) (ob : Obj) : Below w.heap.size w { w with heap := w.heap.push ob } :=
  ⟨fun _ => Nat.le_refl _, rfl, rfl, rfl, by simp, fun k hk => by simp [Array.getElem?_push, Nat.ne_of_lt hk]⟩
omit [Bad] in
omit DW in
theorem push_new (w : World) (ob : Obj) : ({ w with heap := w.heap.push ob } : World).heap[w.heap.size]? = some ob := by simp

/-- A new variable. -/
theorem new_box (hR : Roots w A F) (hS : Slots w A t a.tmps) {cs : List V} {cells : Array Value} (hc : RelL w A cs cells.toList) (ty : TypeId)
    (hk : k (.bp F.length 0) t (F ++ [some (.box cs)]) = some r)
    (hrun : (execOp a.eval o).run P w = .ok (.value (.pointer (some ⟨w.heap.size, 0, none⟩))) { w with heap := w.heap.push (.cells cells ty) }) : GivesE P w A a o k r := by
  have hb := below_push w (.cells cells ty)
  have hA : A[F.length]? = none := by rw [← hR.len]; simp
  have hg : ∀ b, (RI.box w.heap.size).has b → w.heap.size ≤ b ∧ b < ({ w with heap := w.heap.push (.cells cells ty) } : World).heap.size := by
    intro b h; injection h with h; subst h; simp
  have hmono := fun (b : Nat) (_ : Free A b) (hlt : b < w.heap.size) => hb.block b hlt
  have hfree := free_append (A := A) (ri := .box w.heap.size) (w := w) (fun b h => (hg b h).1)
  refine ⟨_, _, _, _, A ++ [some (.box w.heap.size)], _, hk, .inl hrun, hR.grow hb hg ?_, hS.mono hmono hfree (fun _ _ h => get_append h), ?_, .of_below hb, .append (fun b h => (hg b h).1), none_append⟩
  · exact ⟨cells, ty, push_new _ _, hc.mono hmono hfree (fun _ _ h => get_append h)⟩
  · refine .bp _ _ _ ?_
    rw [← hR.len]; simp

theorem gives_alloc (hE : EnvOK E P) (hR : Roots w A F) (hS : Slots w A t a.tmps) (ty : TypeId) (ho : o.op = .alloc ty) (h : opE E t F o k = some r) : GivesE P w A a o k r := by
  simp only [opE, ho] at h
  split at h
  case h_2 => simp at h
  rename_i i hi
  obtain ⟨ti, h1, h2, h3, h4, h5⟩ := hE.ty _ _ hi
  refine new_box hR hS (zeros_rel w A i.zero) ty h ?_
  simp only [execOp, ho, Sem.run_bind, Instr.alloc, zeroValue, typeInfo, run_program, Result.andThen_ok, h1, Sem.run_pure, h5, newVar, newRow, run_newObj]

theorem gives_box (hE : EnvOK E P) (hR : Roots w A F) (hS : Slots w A t a.tmps) (ty : TypeId) (x : Operand) (ho : o.op = .box ty x) (h : opE E t F o k = some r) : GivesE P w A a o k r := by
  simp only [opE, ho] at h
  split at h
  case h_2 => simp at h
  rename_i hl
  refine new_box hR hS (cells_rel (val_rel hS x) hl).1 ty h ?_
  simp only [execOp, ho, Sem.run_bind, Instr.box, newVar, newRow, run_newObj, Result.andThen_ok, Sem.run_pure]

/-- A new row. -/
theorem new_row (hR : Roots w A F) (hS : Slots w A t a.tmps) {e : TypeId} {es : Nat} {rows : List (List D)} {xs : List Value} {cap : Nat} {cells : Array Value} {w1 : World} {fz : Nat × Nat} (hmk : Mk e cells fz)
    (hes : 0 < es) (hl : ∀ row ∈ rows, row.length = es) (hrep : RepL w (Free A) rows.flatten xs) (hw1 : Below w.heap.size w w1) (hs1 : w1.heap.size = w.heap.size)
    (hcap : rows.length ≤ cap) (hmax : cap ≤ maxLen) (hcs : cells.size = cap * es) (htake : cells.toList.take (rows.length * es) = xs)
    (hk : newK E e es rows F (fun v F => k v t F) = some r)
    (hrun : (execOp a.eval o).run P w = .ok (.value (.slice (some ⟨w.heap.size, 0, none⟩) rows.length cap)) { w1 with heap := w1.heap.push (.cells cells e fz) }) : GivesE P w A a o k r := by
  have hb : Below w.heap.size w { w1 with heap := w1.heap.push (.cells cells e fz) } := hw1.trans (by have := below_push w1 (.cells cells e fz); rw [hs1] at this; exact this)
  have hnew : ({ w1 with heap := w1.heap.push (.cells cells e fz) } : World).heap[w.heap.size]? = some (.cells cells e fz) := by rw [← hs1]; exact push_new _ _
  have hmono := fun (b : Nat) (_ : Free A b) (hlt : b < w.heap.size) => hb.block b hlt
  have how : ownsB { w1 with heap := w1.heap.push (.cells cells e fz) } 0 e es (.slice (some ⟨w.heap.size, 0, none⟩) rows.length cap) rows.length xs := by
    refine ⟨?_, .inr ⟨w.heap.size, cap, cells, rfl, Nat.zero_le _, ⟨_, hnew, hmk⟩, hcap, hmax, hcs, htake⟩⟩
    rw [← hrep.1, flat_len rows hl]
  unfold newK at hk
  split at hk
  · have hg : ∀ b, (RI.arr (.slice (some ⟨w.heap.size, 0, none⟩) rows.length cap) e es).has b → w.heap.size ≤ b ∧ b < ({ w1 with heap := w1.heap.push (.cells cells e fz) } : World).heap.size := by
      intro b h; injection h with h; subst h; simp [hs1]
    have hfree := free_append (A := A) (ri := .arr (.slice (some ⟨w.heap.size, 0, none⟩) rows.length cap) e es) (w := w) (fun b h => (hg b h).1)
    refine ⟨_, _, _, _, A ++ [some (.arr (.slice (some ⟨w.heap.size, 0, none⟩) rows.length cap) e es)], _, hk, .inl hrun, hR.grow hb hg ?_, hS.mono hmono hfree (fun _ _ h => get_append h), ?_, .of_below hb,
      .append (fun b h => (hg b h).1), none_append⟩
    · exact ⟨rfl, rfl, hes, hl, xs, how, hrep.mono hmono hfree⟩
    · refine .sl _ _ e es ?_ _ (.of _ _ _)
      rw [← hR.len]; simp
  · rename_i T hT
    obtain ⟨rfl, rfl, hc, h2⟩ := nstOf_ok hT
    generalize hvs : ((List.range rows.length).map fun i => xs.getD (i * T.es + T.c2) undef) = vs
    have hg : ∀ b, (RI.nst (.slice (some ⟨w.heap.size, 0, none⟩) rows.length cap) T 0 vs).has b → w.heap.size ≤ b ∧ b < ({ w1 with heap := w1.heap.push (.cells cells T.e fz) } : World).heap.size := by
      rintro b (h | ⟨i, u, h, _⟩)
      · injection h with h; subst h; simp [hs1]
      · exact absurd h (Nat.not_lt_zero _)
    have hfree := free_append (A := A) (ri := .nst (.slice (some ⟨w.heap.size, 0, none⟩) rows.length cap) T 0 vs) (w := w) (fun b h => (hg b h).1)
    refine ⟨_, _, _, _, A ++ [some (.nst (.slice (some ⟨w.heap.size, 0, none⟩) rows.length cap) T 0 vs)], _, hk, .inl hrun, hR.grow hb hg ?_, hS.mono hmono hfree (fun _ _ h => get_append h), ?_, .of_below hb,
      .append (fun b h => (hg b h).1), none_append⟩
    · refine ⟨rfl, rfl, ?_⟩
      have h0 := NstRel.of_arr (e := T.e) (es := T.es) hc h2 hl how (hrep.mono hmono hfree)
      rw [hvs] at h0
      exact h0
    · refine .nsl _ _ T 0 vs ?_ _ (.of _ _ _)
      rw [← hR.len]; simp

omit [Bad] in
omit DW in
theorem toDs_some : ∀ {cs : List V} {ds : List D}, toDs cs = some ds → cs = ds.map V.d
  | [], ds, h => by simp [toDs] at h; subst h; rfl
  | c :: cs, ds, h => by
    cases c <;> simp only [toDs] at h <;> try (simp at h; done)
    split at h
    · rename_i ds' h'
      injection h with h
      subst h
      rw [toDs_some h']; rfl
    · simp at h

omit DW in
theorem toDs_rep {cs : List V} {ds : List D} (h : toDs cs = some ds) {vs : List Value} (hr : RelL w A cs vs) : RepL w (Free A) ds vs := by
  have := toDs_some h
  subst this
  refine ⟨by simpa using hr.1, fun i x v h1 h2 => ?_⟩
  have := hr.2 i (.d x) v (by rw [List.getElem?_map, h1]; rfl) h2
  cases this with
  | d _ _ h => exact h

omit [Bad] in
omit DW in
theorem rep_flat {S : Nat → Prop} {z : List D} {vs : List Value} (h : RepL w S z vs) : ∀ n, RepL w S (List.replicate n z).flatten (List.replicate n vs).flatten
  | 0 => by simpa using RepL.nil w S
  | n + 1 => by
    rw [List.replicate_succ, List.replicate_succ, List.flatten_cons, List.flatten_cons]
    exact h.append (rep_flat h n)

omit [Bad] in
omit DW in
theorem made_flat (z : Array Value) (hz : 0 < z.size) : ∀ n, (madeCells z (n * z.size)).toList = (List.replicate n z.toList).flatten := by
  intro n
  apply List.ext_getElem?
  intro i
  have hl : ∀ row ∈ List.replicate n z.toList, row.length = z.size := fun row h => by rw [List.eq_of_mem_replicate h]; simp
  by_cases hi : i < n * z.size
  · have hq : i / z.size < n := by rw [Nat.div_lt_iff_lt_mul hz]; exact hi
    have hm : i % z.size < z.size := Nat.mod_lt _ hz
    have e : i = i / z.size * z.size + i % z.size := by rw [Nat.mul_comm]; exact (Nat.div_add_mod i z.size).symm
    have h1 := flat_get (List.replicate n z.toList) hl (i / z.size) (i % z.size) z.toList (by simp [List.getElem?_replicate, hq]) hm
    rw [← e] at h1
    rw [h1]
    simp [madeCells, hi, hm]
  · rw [List.getElem?_eq_none (by simp [madeCells]; omega), List.getElem?_eq_none (by rw [flat_len _ hl]; simp; omega)]

theorem gives_make (hE : EnvOK E P) (hR : Roots w A F) (hS : Slots w A t a.tmps) (ty : TypeId) (l c : Operand) (ho : o.op = .makeSlice ty l c) (h : opE E t F o k = some r) : GivesE P w A a o k r := by
  simp only [opE, ho] at h
  split at h
  case h_2 => simp at h
  rename_i i hi
  split at h
  case h_2 => simp at h
  rename_i e hd
  split at h
  case h_2 => simp at h
  rename_i j hj
  split at h
  case h_2 => simp at h
  rename_i k1 n k2 m hln hcn
  split at h
  case h_2 => simp at h
  rename_i c1
  simp only [mkOk, Bool.and_eq_true, decide_eq_true_eq] at c1
  obtain ⟨n0, nm, hby, c4, c5⟩ := c1
  split at h
  case h_2 => simp at h
  rename_i z hz
  split at h
  case h_2 => simp at h
  rename_i c6 c7
  obtain ⟨_, _, h2, _⟩ := hE.ty _ _ hi
  rw [hd] at h2
  obtain ⟨tj, g1, g2, g3, g4, g5⟩ := hE.ty _ _ hj
  have m0 : 0 ≤ m := by omega
  have hsz : 0 < j.size := by
    have := c4; simp [Nat.blt_eq] at this; exact this
  have hb0 : 0 < j.bytes := by
    have := c5; simp [Nat.blt_eq] at this; exact this
  have hzl : z.length = j.size := Nat.eq_of_beq_eq_true c6
  have hn : m.toNat ≤ 140737488355328 := Nat.le_trans (Nat.le_mul_of_pos_left _ hb0) hby
  have hnm : n.toNat ≤ m.toNat := by omega
  have hzr := toDs_rep hz (zeros_rel w A j.zero)
  have hzc : j.zero.cells.size = j.size := by
    have := hzr.1; simp at this; omega
  have hrun := run_make (P := P) w ty e tj j.zero h2 g1 g5 k1 k2 n m n0 nm (by
    rw [g4]
    have : ((j.bytes * m.toNat : Nat) : Int) ≤ ((140737488355328 : Nat) : Int) := Int.ofNat_le.mpr hby
    rw [Int.natCast_mul, Int.toNat_of_nonneg m0] at this
    omega) (by omega)
  rw [g3] at hrun
  have hl : ∀ row ∈ List.replicate n.toNat z, row.length = j.size := fun row h => by rw [List.eq_of_mem_replicate h]; exact hzl
  have hfl := made_flat j.zero.cells (by omega) m.toNat
  rw [hzc] at hfl
  refine new_row (e := e) (es := j.size) (rows := List.replicate n.toNat z) (xs := (List.replicate n.toNat j.zero.cells.toList).flatten) (cap := m.toNat) (cells := madeCells j.zero.cells (m.toNat * j.size)) (w1 := w)
    hR hS (.z _ _) hsz hl (rep_flat hzr n.toNat) (Below.refl _ _) rfl (by simpa using hnm) (by unfold maxLen; omega) (by simp [madeCells]) ?_ h ?_
  · rw [hfl]
    simp only [List.length_replicate]
    have hfn : (List.replicate n.toNat j.zero.cells.toList).flatten.length = n.toNat * j.size := by
      rw [flat_len (List.replicate n.toNat j.zero.cells.toList) (es := j.size) (fun row h => by rw [List.eq_of_mem_replicate h]; simpa using hzc)]; simp
    rw [show m.toNat = n.toNat + (m.toNat - n.toNat) by omega, ← List.replicate_append_replicate, List.flatten_append, List.take_append_of_le_length (by omega)]
    exact List.take_of_length_le (by omega)
  · simp only [execOp, ho, Sem.run_bind, eval_lit hS hln, eval_lit hS hcn, hrun, Result.andThen_ok, Sem.run_pure, List.length_replicate]
    rfl

omit [Bad] in
omit DW in
/-- Cells stored where none is frozen. -/
theorem run_storeB (P : Program) (g o : Nat) (t : TypeId) (fz : Nat × Nat) : ∀ (vs : List Value) (i : Nat) (cur : Array Value) (w : World), w.heap[g]? = some (.cells cur t fz) → Mk t cur fz → o + i + vs.length ≤ cur.size → (∀ v ∈ vs, v.oneCell' = true) →
    (storeCells ⟨g, o, none⟩ vs i).run P w = .ok () (w.setRow g (cur.toList.take (o + i) ++ vs ++ cur.toList.drop (o + i + vs.length)).toArray)
  | [], i, cur, w, hg, _, _, _ => by
    simp only [storeCells, List.append_nil, List.length_nil, Nat.add_zero, List.take_append_drop, Array.toArray_toList]
    rw [setRow_self w g cur t fz hg]
    rfl
  | v :: rest, i, cur, w, hg, hfz, hl, h1 => by
    have hi : o + i < cur.size := by simp at hl; omega
    have hadd : (⟨g, o, none⟩ : Addr).add i = ⟨g, o + i, none⟩ := by unfold Addr.add; split <;> simp_all
    have hcell : w.cell? ⟨g, o + i, none⟩ = some cur[o + i] := by simp [World.cell?, hg, hi]
    have hfro : w.frozen? ⟨g, o + i, none⟩ = false := by
      rcases hfz with rfl | h
      · simp [World.frozen?, hg]
      · have h := h.1
        obtain ⟨lo, hi'⟩ := fz
        simp only [World.frozen?, hg, Bool.and_eq_false_iff, decide_eq_false_iff_not]
        left
        simp only at h
        omega
    have hst : (store ((⟨g, o, none⟩ : Addr).add i) v).run P w = .ok () (w.setRow g (cur.setIfInBounds (o + i) v)) := by
      rw [hadd, run_store P w _ v _ (h1 v (by simp)), hcell]
      simp [hfro, setCell_eq_setRow w g (o + i) cur t fz v hg]
    have ih := run_storeB P g o t fz rest (i + 1) (cur.setIfInBounds (o + i) v) (w.setRow g (cur.setIfInBounds (o + i) v)) (setRow_heap w g cur _ t _ hg) (hfz.of (by simp)) (by simp at hl ⊢; omega) (fun x hx => h1 x (by simp [hx]))
    simp only [storeCells, Sem.run_bind, hst, Result.andThen_ok, ih, setRow_setRow]
    congr 3
    have e := list_seg_step cur.toList (o + i) v rest (by simp at hl ⊢; omega)
    simpa [Array.toList_setIfInBounds, Nat.add_assoc] using e

omit [Bad] in
omit DW in
theorem run_append_roomB (w : World) (t ty e : TypeId) (i : TypeInfo) (ht : P.underlying t = some (.slice e)) (hi : P.info? e = some i)
    (g sLen sCap : Nat) (cur : Array Value) (fz : Nat × Nat) (hg : w.heap[g]? = some (.cells cur e fz)) (hm : Mk e cur fz)
    (a : Addr) (m c : Nat) (news : List Value) (hl : news.length = m * i.size) (hnews : ∀ j u, news[j]? = some u → w.cell? (a.add j) = some u) (h1 : ∀ u ∈ news, u.oneCell' = true)
    (hroom : sLen + m ≤ sCap) (hfit : sLen * i.size + news.length ≤ cur.size) :
    (Builtin.append_ #[t, t] ty #[.slice (some ⟨g, 0, none⟩) sLen sCap, .slice (some a) m c]).run P w =
      .ok (.slice (some ⟨g, 0, none⟩) (sLen + m) sCap) (w.setRow g (cur.toList.take (sLen * i.size) ++ news ++ cur.toList.drop (sLen * i.size + news.length)).toArray) := by
  have hf := run_firstCells_some (P := P) w i.size m a m c news hl hnews
  have hst := run_storeB P g (sLen * i.size) e fz news 0 cur w hg hm (by simpa using hfit) h1
  simp only [Nat.add_zero] at hst
  simp [Builtin.append_, run_underlying ht, sizeOf, typeInfo, hi, Builtin.lenOf, hroom, hf, Addr.add_lit, hst]

omit [Bad] in
omit DW in
theorem run_append_noneB (base : Nat) (t ty e : TypeId) (i : TypeInfo) (size : Nat) (ht : P.underlying t = some (.slice e)) (hi : P.info? e = some i)
    (v : Value) (n : Nat) (xs : List Value) (hown : ownsB w base e size v n xs) :
    (Builtin.append_ #[t, t] ty #[v, .slice none 0 0]).run P w = .ok v w := by
  rcases hown.2 with ⟨rfl, rfl⟩ | ⟨g, cap, cur, rfl, _, _, hnc, _⟩
  · simp [Builtin.append_, run_underlying ht, sizeOf, typeInfo, hi, Builtin.lenOf, Builtin.firstCells]
  · simp [Builtin.append_, run_underlying ht, sizeOf, typeInfo, hi, Builtin.lenOf, Builtin.firstCells, hnc, storeCells]

omit [Bad] in
omit DW in
/-- An append to a row of the frame's own. -/
theorem append_run {t ty e : TypeId} {i : TypeInfo} {z : Value} {size : Nat} (ht : P.underlying t = some (.slice e)) (hi : P.info? e = some i) (hz : i.zero = some z)
    (hsize : i.size = size) (hzs : z.cells.size = size) (hsz : 0 < size) {v : Value} {n : Nat} {xs : List Value} (how : ownsB w 0 e size v n xs)
    {u : Value} {m : Nat} {news : List Value} (hl : news.length = m * size) (h1 : ∀ u ∈ news, u.oneCell' = true)
    (hu : (news = [] ∧ ∃ p cap, u = .slice p 0 cap ∧ (p = none → cap = 0)) ∨ ∃ (a : Addr) (cap : Nat), u = .slice (some a) m cap ∧ ∀ j x, news[j]? = some x → w.cell? (a.add j) = some x)
    (h63 : n + m ≤ maxLen) (hbytes : (n + m) * i.bytes ≤ 140737488355328) :
    ∃ v' w', (Builtin.append_ #[t, t] ty #[v, u]).run P w = .ok v' w' ∧ ownsB w' 0 e size v' (n + m) (xs ++ news) ∧ w.grownBy w' v.ownBlock ∧
      (∀ b, v'.ownBlock = some b → v.ownBlock = some b ∨ w.heap.size ≤ b) := by
  have main : ∀ (a : Addr) (cap : Nat), (∀ j x, news[j]? = some x → w.cell? (a.add j) = some x) →
      ∃ v' w', (Builtin.append_ #[t, t] ty #[v, .slice (some a) m cap]).run P w = .ok v' w' ∧ ownsB w' 0 e size v' (n + m) (xs ++ news) ∧ w.grownBy w' v.ownBlock ∧
      (∀ b, v'.ownBlock = some b → v.ownBlock = some b ∨ w.heap.size ≤ b) := by
    intro a cap hc
    subst hsize
    have hlen : (xs ++ news).length = (n + m) * i.size := by rw [List.length_append, how.1, hl, Nat.add_mul]
    have hsmall : n + m ≤ 9223372036854775807 := by simp only [maxLen] at h63; omega
    rcases how.2 with ⟨rfl, hz0⟩ | ⟨g, cp, cur, rfl, _, ⟨fz, hh, hmk⟩, hnc, hcm, hcs, htake⟩
    · have how' : w.ownsRow w.heap.size e i.size (.slice none 0 0) n xs := ⟨how.1, .inl ⟨rfl, hz0⟩⟩
      obtain ⟨v2, w2, k1, k2, k3, _⟩ := run_append_own (P := P) w w.heap.size t ty e i z i.size i.bytes ht hi hz rfl rfl hzs hsz _ n xs how' a m cap news hl hc h1 h63 hbytes (Nat.le_refl _)
      refine ⟨v2, w2, k1, ⟨k2.1, ?_⟩, k3, fun b hb => .inr ?_⟩
      · rcases k2.2 with h | ⟨g, cp, cur, h1, _, h2, h3⟩
        · exact .inl h
        · exact .inr ⟨g, cp, cur, h1, Nat.zero_le _, ⟨_, h2, .z _ _⟩, h3⟩
      · rcases k2.2 with ⟨rfl, _⟩ | ⟨g, _, _, rfl, hg, _⟩
        · simp [Value.ownBlock] at hb
        · simp only [Value.ownBlock, Option.some.injEq] at hb
          subst hb; exact hg
    · by_cases hroom : n + m ≤ cp
      · have hfit : n * i.size + news.length ≤ cur.size := by rw [hl, hcs, ← Nat.add_mul]; exact Nat.mul_le_mul_right _ hroom
        have hr := run_append_roomB (P := P) w t ty e i ht hi g n cp cur fz hh hmk a m cap news hl hc h1 hroom hfit
        have hsz2 : (cur.toList.take (n * i.size) ++ news ++ cur.toList.drop (n * i.size + news.length)).toArray.size = cur.size := by
          simp only [List.size_toArray, List.length_append, List.length_take, List.length_drop, Array.length_toList]; omega
        refine ⟨_, _, hr, ⟨hlen, .inr ⟨g, cp, _, rfl, Nat.zero_le _, ⟨fz, setRow_heap w g cur _ e _ hh, hmk.of hsz2⟩, hroom, hcm, by rw [hsz2]; exact hcs, ?_⟩⟩,
          ⟨rfl, rfl, rfl, by simp, fun k _ hk => setRow_other w g k _ (fun e => hk (by simp [Value.ownBlock, e]))⟩, fun b hb => .inl hb⟩
        rw [htake, ← hlen]
        exact List.take_left
      · have holds : ∀ j u, xs[j]? = some u → w.cell? ((⟨g, 0, none⟩ : Addr).add j) = some u := how.cells (g := g) rfl
        have hr := run_append_grow (P := P) w t ty e i z ht hi hz ⟨g, 0, none⟩ n cp xs how.1 holds a m cap news hl hc (by omega) (by omega) (growslice_fits (by omega) hbytes)
        have hge := grownCap_ge w (n + m) cp e
        have hgm : grownCap w (n + m) cp e ≤ maxLen := grownCap_le_maxLen w (n + m) cp e h63
        refine ⟨_, _, hr, ⟨hlen, .inr ⟨w.heap.size, _, _, rfl, Nat.zero_le _, ⟨_, heap_alloc_new w.drew _, .z _ _⟩, hge, hgm, ?_, ?_⟩⟩, ⟨rfl, rfl, rfl, by simp, fun k hk _ => heap_alloc_old w.drew _ k hk⟩, fun b hb => .inr ?_⟩
        · simp only [Array.size_append, List.size_toArray, size_zeroCells, hzs, how.1, hl, ← Nat.add_mul]
          congr 1
          omega
        · simp only [Array.toList_append, List.append_assoc]
          rw [← List.append_assoc, ← hlen]
          exact List.take_left
        · simp only [Value.ownBlock, Option.some.injEq] at hb
          subst hb; exact Nat.le_refl _
  rcases hu with ⟨rfl, p, cap, rfl, hp⟩ | ⟨a, cap, rfl, hc⟩
  · have hm : m = 0 := by
      rcases Nat.eq_zero_or_pos m with h | h
      · exact h
      · have := Nat.mul_pos h hsz; simp at hl; omega
    subst hm
    cases p with
    | none =>
      have := hp rfl
      subst this
      refine ⟨v, w, run_append_noneB 0 t ty e i size ht hi v n xs how, by simpa using how, ⟨rfl, rfl, rfl, Nat.le_refl _, fun _ _ _ => rfl⟩, fun b hb => .inl hb⟩
    | some a => exact main a cap (fun j x h => by simp at h)
  · exact main a cap hc

omit [Bad] in
omit DW in
/-- An append to what stands for a row of the frame's own. -/
theorem append_run2 {t ty e : TypeId} {i : TypeInfo} {z : Value} {size : Nat} (ht : P.underlying t = some (.slice e)) (hi : P.info? e = some i) (hz : i.zero = some z)
    (hsize : i.size = size) (hzs : z.cells.size = size) (hsz : 0 < size) {v0 v : Value} {n : Nat} {xs : List Value} (how : ownsB w 0 e size v0 n xs) (hv : SlOf v0 v)
    {u : Value} {m : Nat} {news : List Value} (hl : news.length = m * size) (h1 : ∀ u ∈ news, u.oneCell' = true)
    (hu : (news = [] ∧ ∃ p cap, u = .slice p 0 cap ∧ (p = none → cap = 0)) ∨ ∃ (a : Addr) (cap : Nat), u = .slice (some a) m cap ∧ ∀ j x, news[j]? = some x → w.cell? (a.add j) = some x)
    (h63 : n + m ≤ maxLen) (hbytes : (n + m) * i.bytes ≤ 140737488355328) :
    ∃ v' u' w', (Builtin.append_ #[t, t] ty #[v, u]).run P w = .ok u' w' ∧ SlOf v' u' ∧ ownsB w' 0 e size v' (n + m) (xs ++ news) ∧ w.grownBy w' v0.ownBlock ∧
      (∀ b, v'.ownBlock = some b → v0.ownBlock = some b ∨ w.heap.size ≤ b) := by
  have plain : v = v0 → ∃ v' u' w', (Builtin.append_ #[t, t] ty #[v, u]).run P w = .ok u' w' ∧ SlOf v' u' ∧ ownsB w' 0 e size v' (n + m) (xs ++ news) ∧ w.grownBy w' v0.ownBlock ∧
      (∀ b, v'.ownBlock = some b → v0.ownBlock = some b ∨ w.heap.size ≤ b) := by
    rintro rfl
    obtain ⟨v', w', k1, k2, k3, k4⟩ := append_run (P := P) (ty := ty) ht hi hz hsize hzs hsz how hl h1 hu h63 hbytes
    refine ⟨v', v', w', k1, .self ?_, k2, k3, k4⟩
    rcases k2.2 with ⟨rfl, _⟩ | ⟨g, cap, _, rfl, _⟩
    · exact ⟨_, _, _, rfl⟩
    · exact ⟨_, _, _, rfl⟩
  obtain ⟨_, hv | ⟨rfl, p, rfl⟩⟩ := hv
  · exact plain hv
  cases p with
  | none => exact plain rfl
  | some a0 =>
    obtain ⟨hxl, ⟨_, rfl⟩ | ⟨g, cap, cur, he, _⟩⟩ := how
    case inr => simp at he
    have hxs : xs = [] := List.eq_nil_of_length_eq_zero (by simpa using hxl)
    subst hxs
    by_cases hm : m = 0
    · subst hm
      have hnn : news = [] := List.eq_nil_of_length_eq_zero (by simpa using hl)
      subst hnn
      refine ⟨.slice none 0 0, .slice (some a0) 0 0, w, ?_, ⟨⟨_, _, _, rfl⟩, .inr ⟨rfl, _, rfl⟩⟩, by simpa using ownsB_nil w 0 e size, ⟨rfl, rfl, rfl, Nat.le_refl _, fun _ _ _ => rfl⟩, fun b hb => .inl hb⟩
      rcases hu with ⟨_, p, cap, rfl, hp⟩ | ⟨a, cap, rfl, hc⟩
      · cases p with
        | none =>
          have := hp rfl
          subst this
          simp [Builtin.append_, run_underlying ht, sizeOf, typeInfo, hi, Builtin.lenOf, Builtin.firstCells, storeCells]
        | some a =>
          have hf := run_firstCells_some (P := P) w i.size 0 a 0 cap [] (by simp) (by simp)
          simp [Builtin.append_, run_underlying ht, sizeOf, typeInfo, hi, Builtin.lenOf, hf, storeCells]
      · have hf := run_firstCells_some (P := P) w i.size 0 a 0 cap [] (by simp) (by simp)
        simp [Builtin.append_, run_underlying ht, sizeOf, typeInfo, hi, Builtin.lenOf, hf, storeCells]
    · obtain ⟨a, cap, rfl, hc⟩ : ∃ (a : Addr) (cap : Nat), u = .slice (some a) m cap ∧ ∀ j x, news[j]? = some x → w.cell? (a.add j) = some x := by
        rcases hu with ⟨rfl, _⟩ | h
        · have := Nat.mul_pos (Nat.pos_of_ne_zero hm) hsz; simp at hl; omega
        · exact h
      obtain ⟨v', w', k1, k2, k3⟩ := run_append_arg_grows (P := P) w t ty e i z size i.bytes ht hi hz hsize rfl hzs hsz a0 0 0 [] (by simp) (by simp) a m cap news hl hc (by omega) h63 hbytes
      refine ⟨v', v', w', k1, .self ?_, ⟨by simpa using k2.1, ?_⟩, k3, fun b hb => .inr ?_⟩
      · rcases k2.2 with ⟨rfl, _⟩ | ⟨g, cap, _, rfl, _⟩
        · exact ⟨_, _, _, rfl⟩
        · exact ⟨_, _, _, rfl⟩
      · rcases k2.2 with h | ⟨g, cap, cur, h2, _, h3, h4⟩
        · exact .inl h
        · exact .inr ⟨g, cap, cur, h2, Nat.zero_le _, ⟨_, h3, .z _ _⟩, h4⟩
      · rcases k2.2 with ⟨rfl, _⟩ | ⟨g, cap, _, rfl, hg, _⟩
        · simp [Value.ownBlock] at hb
        · simp only [Value.ownBlock, Option.some.injEq] at hb
          subst hb; exact hg

omit [Bad] in
omit DW in
theorem repL_one {S : Nat → Prop} {ds : List D} {vs : List Value} (h : RepL w S ds vs) : ∀ u ∈ vs, u.oneCell' = true := by
  intro u hu
  obtain ⟨i, hi⟩ := List.mem_iff_getElem?.mp hu
  have hlt : i < ds.length := by rw [h.1]; exact (List.getElem?_eq_some_iff.mp hi).1
  exact (h.2 i ds[i] u (by simp [hlt]) hi).one

omit DW in
theorem own_of_root (hR : Roots w A F) {r2 : Nat} {e2 : TypeId} {es2 : Nat} {rws : List (List D)} (hr : root F r2 = some (.arr e2 es2 rws)) {u : Value} (h : RelV w A (.sl r2) u) :
    ∃ v2, A[r2]? = some (some (.arr v2 e2 es2)) ∧ SlOf v2 u ∧ NOwn w (Free A) e2 es2 rws v2 ∧ 0 < es2 := by
  obtain ⟨ri, r1, r2'⟩ := hR.rel r2 _ (root_get hr)
  cases h with
  | sl _ v2 e' es' hA _ hs =>
    rw [hA] at r1
    injection r1 with r1; injection r1 with r1
    subst r1
    obtain ⟨rfl, rfl, h0, hl, ys, how, hrep⟩ := r2'
    exact ⟨v2, hA, hs, ⟨hl, ys, how, hrep⟩, h0⟩


omit DW in
theorem kil2_sub {w' : World} {s r2 : Nat} {xs x2 : RI} {ri : RI} (hA : A[s]? = some (some xs)) (hA2 : A[r2]? = some (some x2)) (hb : ∀ g, xs ≠ .box g) (hb2 : ∀ g, x2 ≠ .box g)
    (hwf : ∀ b, Free A b → b < w.heap.size → w'.heap[b]? = w.heap[b]?) (hfree : ∀ b, Free A b → b < w.heap.size → Free ((A.set s none).set r2 none ++ [some ri]) b) {c : V} {u : Value} (hc : RelV w A c u) :
    RelV w' ((A.set s none).set r2 none ++ [some ri]) (subV (kil2S s r2) (kil2P s r2) .bp c) u := by
  have hkeep : ∀ (r' : Nat) (y : RI), A[r']? = some (some y) → r' ≠ s → r' ≠ r2 → ((A.set s none).set r2 none ++ [some ri])[r']? = some (some y) := fun r' y hy h1 h2 => get_append (get_stay hy h1 h2)
  refine sub_rel hwf hfree (fun r' v1 e' es' hA1 u1 hv1 => ?_) (fun r' i j g n cap es' e' hA1 => ?_) (fun r' j g hA1 => ?_) (fun r' v1 T n vs hA1 => ?_) hc
  · unfold kil2S
    split
    · exact .dead _
    · rename_i h1
      split
      · exact .dead _
      · rename_i h2
        exact .sl r' v1 e' es' (hkeep _ _ hA1 (fun e => by subst e; simp at h1) (fun e => by subst e; simp at h2)) u1 hv1
  · unfold kil2P
    split
    · exact .dead _
    · rename_i h1
      split
      · exact .dead _
      · rename_i h2
        exact .ptr r' i j g n cap es' e' (hkeep _ _ hA1 (fun e => by subst e; simp at h1) (fun e => by subst e; simp at h2))
  · exact .bp r' j g (hkeep _ _ hA1 (fun e => by subst e; rw [hA] at hA1; injection hA1 with hA1; injection hA1 with hA1; exact hb g hA1) (fun e => by subst e; rw [hA2] at hA1; injection hA1 with hA1; injection hA1 with hA1; exact hb2 g hA1))
  · unfold kil2S
    split
    · trivial
    · rename_i h1
      split
      · trivial
      · rename_i h2
        exact subN_of (hkeep _ _ hA1 (fun e => by subst e; simp at h1) (fun e => by subst e; simp at h2))

/-- An append of one row with a slice of the frame's own: what is left to be shown. -/
theorem app_fin (hR : Roots w A F) (hS : Slots w A t a.tmps) {s r2 n : Nat} {T : NT} {rows : List (List D)} {ds : List D} {rws : List (List D)} {v0 v' u' u2 uy : Value} {us : List Value} {x2 : RI} {w' : World} {xs ys : List Value}
    (hA : A[s]? = some (some (.nst v0 T n us))) (hN : NstRel w (Free A) v0 T n us rows) (hA2 : A[r2]? = some (some x2)) (hb2 : ∀ g, x2 ≠ .box g) (hne : s ≠ r2) (hx2 : ∀ b, u2.ownBlock = some b → x2.has b)
    (hnl : n = rows.length) (how0 : ownsB w 0 T.e T.es v0 rows.length xs) (how : ownsB w' 0 T.e T.es v' (rows.length + 1) (xs ++ ys)) (hg : w.grownBy w' v0.ownBlock) (k4 : ∀ b, v'.ownBlock = some b → v0.ownBlock = some b ∨ w.heap.size ≤ b)
    (kS : SlOf v' u') (hdl : ds.length = T.es) (hyl : ys.length = T.es) (huy : ys[T.c2]? = some uy) (hd : ∀ (q : Nat) (x : D) (y : Value), q ≠ T.c2 → ds[q]? = some x → ys[q]? = some y → Rep w (Free A) x y)
    (hs : SlOf u2 uy) (hdc : ds[T.c2]? = some (.arr rws)) (hown : NOwn w (Free A) T.e2 T.es2 rws u2)
    (hrun : (execOp a.eval o).run P w = .ok (.value u') w')
    (h : k (.nsl F.length) (subL (kil2S s r2) (kil2P s r2) .bp t) (((mapO (subR (kil2S s r2) (kil2P s r2) .bp) F).set s none).set r2 none ++ [some (.nst T (n + 1) (rows ++ [ds]))]) = some r) : GivesE P w A a o k r := by
  obtain ⟨ri, hri⟩ : ∃ ri, RI.nst v' T (n + 1) (us ++ [u2]) = ri := ⟨_, rfl⟩
  have hvl : us.length = rows.length := hN.vl
  have hblt : ∀ b, x2.has b → b < w.heap.size := fun b hb => hR.lt b ⟨r2, _, hA2, hb⟩
  have hap : ∀ b, x2.has b → ¬ (RI.nst v0 T n us).has b := fun b hb h1 => hne (hR.inj s r2 _ _ b hA hA2 h1 hb)
  have hlt' : ∀ b, v'.ownBlock = some b → b < w'.heap.size := by
    intro b hb
    rcases how.2 with ⟨rfl, _⟩ | ⟨g, _, _, rfl, _, ⟨_, hh, _⟩, _⟩
    · simp [Value.ownBlock] at hb
    · simp only [Value.ownBlock, Option.some.injEq] at hb
      subst hb
      exact (Array.getElem?_eq_some_iff.mp hh).1
  have hcov : ∀ b, ri.has b → (RI.nst v0 T n us).has b ∨ x2.has b ∨ w.heap.size ≤ b := by
    subst hri
    rintro b (hb | ⟨i', u1, h1, h2, h3⟩)
    · exact (k4 b hb).elim (fun h => .inl (.inl h)) (fun h => .inr (.inr h))
    · by_cases hi' : i' < us.length
      · rw [List.getElem?_append_left hi'] at h2
        exact .inl (.inr ⟨i', u1, by omega, h2, h3⟩)
      · rw [List.getElem?_append_right (by omega)] at h2
        have h0 : i' - us.length = 0 := by
          have := (List.getElem?_eq_some_iff.mp h2).1; simpa using this
        rw [h0] at h2
        simp only [List.getElem?_cons_zero, Option.some.injEq] at h2
        subst h2
        exact .inr (.inl (hx2 b h3))
  have hltw : ∀ b, ri.has b → b < w'.heap.size := by
    intro b hb
    subst hri
    rcases hb with hb | ⟨i', u1, h1, h2, h3⟩
    · exact hlt' b hb
    · refine Nat.lt_of_lt_of_le ?_ hg.size
      by_cases hi' : i' < us.length
      · rw [List.getElem?_append_left hi'] at h2
        exact hR.lt b ⟨s, _, hA, .inr ⟨i', u1, by omega, h2, h3⟩⟩
      · rw [List.getElem?_append_right (by omega)] at h2
        have h0 : i' - us.length = 0 := by
          have := (List.getElem?_eq_some_iff.mp h2).1; simpa using this
        rw [h0] at h2
        simp only [List.getElem?_cons_zero, Option.some.injEq] at h2
        subst h2
        exact hblt b (hx2 b h3)
  have hsame : ∀ b, b < w.heap.size → v0.ownBlock ≠ some b → w'.heap[b]? = w.heap[b]? := fun b hb hne => hg.block b hb (fun e => hne e.symm)
  have hwf : ∀ b, Free A b → b < w.heap.size → w'.heap[b]? = w.heap[b]? := fun b hf hb => hsame b hb (fun e => hf.1 ⟨s, _, hA, .inl e⟩)
  have hfree : ∀ b, Free A b → b < w.heap.size → Free ((A.set s none).set r2 none ++ [some ri]) b := by
    refine fun b hf hb => ⟨fun ho => ?_, hf.2⟩
    rcases own_append ho with h1 | h1
    · exact hf.1 (own_drop (own_drop h1))
    · rcases hcov b h1 with h2 | h2 | h2
      · exact hf.1 ⟨s, _, hA, h2⟩
      · exact hf.1 ⟨r2, _, hA2, h2⟩
      · omega
  have hsub : ∀ {c : V} {u : Value}, RelV w A c u → RelV w' ((A.set s none).set r2 none ++ [some ri]) (subV (kil2S s r2) (kil2P s r2) .bp c) u := fun hc => kil2_sub hA hA2 (fun g e => by simp at e) hb2 hwf hfree hc
  have hb2' : ∀ b, u2.ownBlock = some b → w'.heap[b]? = w.heap[b]? ∧ v'.ownBlock ≠ some b := fun b hb => by
    have hl := hblt b (hx2 b hb)
    refine ⟨hsame b hl (fun e => hap b (hx2 b hb) (.inl e)), fun e => ?_⟩
    rcases k4 b e with h1 | h1
    · exact hap b (hx2 b hb) (.inl h1)
    · omega
  have hin : ∀ (i : Nat) (u : Value) (b : Nat), i < n → us[i]? = some u → u.ownBlock = some b → w'.heap[b]? = w.heap[b]? ∧ v'.ownBlock ≠ some b := by
    intro i u b hi hu hb
    have hh : (RI.nst v0 T n us).has b := .inr ⟨i, u, hi, hu, hb⟩
    have h1 := hN.dis.1 i u b hi hu hb
    refine ⟨hsame b (hR.lt b ⟨s, _, hA, hh⟩) h1, fun e => ?_⟩
    rcases k4 b e with h2 | h2
    · exact h1 h2
    · have := hR.lt b ⟨s, _, hA, hh⟩; omega
  have hw0 : ∀ b, (Free A b ∧ b < w.heap.size) → b < w.heap.size → w'.heap[b]? = w.heap[b]? := fun b hb hlt => hwf b hb.1 hlt
  have happ := NstRel.app (S := fun b => Free A b ∧ b < w.heap.size) (n' := n + 1) (u := u2) (hN.mono (fun _ _ _ => rfl) (fun b hb hlt => ⟨hb, hlt⟩) (fun _ _ => rfl)) how0 hw0 hin how hdl hyl huy (fun q x y hq hx hy => (hd q x y hq hx hy).mono hwf (fun b hb hlt => ⟨hb, hlt⟩))
    (.inr ⟨hnl, rfl, hs, rws, hdc, hown.mono hwf (fun b hb hlt => ⟨hb, hlt⟩) (fun b hb => (hb2' b hb).1), fun b hb => ⟨(hb2' b hb).2, fun i u1 hi hu hbu => hap b (hx2 b hb) (.inr ⟨i, u1, hi, hu, hbu⟩)⟩⟩)
  have hroot' : RootRel w' ((A.set s none).set r2 none ++ [some ri]) ri (.nst T (n + 1) (rows ++ [ds])) := by
    subst hri
    exact ⟨rfl, rfl, happ.mono (fun _ _ _ => rfl) (fun b hf _ => hfree b hf.1 hf.2) (fun _ _ => rfl)⟩
  have hnew : ((A.set s none).set r2 none ++ [some ri])[F.length]? = some (some ri) := by
    have : F.length = ((A.set s none).set r2 none).length := by simp [hR.len]
    rw [this]; simp
  refine ⟨_, u', _, _, (A.set s none).set r2 none ++ [some ri], w', h, .inl hrun, ?_, hS.sub hsub, ?_, ⟨fun _ => run_drawn _ hrun, hg.os, hg.tape, hg.output, hg.size, fun b hb hf => hsame b hb (fun e => hf ⟨s, _, hA, .inl e⟩)⟩, ⟨by simp, fun r' y hy => ?_, fun b hb => ?_⟩, fun r' hr' => ?_⟩
  · exact hR.merge hA hA2 (fun b hb h1 _ => hsame b hb (fun e => h1 (.inl e))) hg.size (fun b hb => ⟨hcov b hb, hltw b hb⟩) hsub hroot'
  · subst hri; exact .nsl _ v' T (n + 1) (us ++ [u2]) hnew _ kS
  · by_cases h1 : r' = s
    · subst h1
      refine .inr (get_append ?_)
      rw [List.getElem?_set_ne (fun e => hne e.symm), List.getElem?_set, if_pos rfl, if_pos (List.getElem?_eq_some_iff.mp hy).1]
    · by_cases h2 : r' = r2
      · subst h2
        refine .inr (get_append ?_)
        rw [List.getElem?_set, if_pos rfl, if_pos (by simpa using (List.getElem?_eq_some_iff.mp hy).1)]
      · exact .inl (get_append (get_stay hy h1 h2))
  · rcases own_append hb with h1 | h1
    · exact .inl (own_drop (own_drop h1))
    · rcases hcov b h1 with h2 | h2 | h2
      · exact .inl ⟨s, _, hA, h2⟩
      · exact .inl ⟨r2, _, hA2, h2⟩
      · exact .inr h2
  · refine get_append ?_
    have h1 : r' ≠ s := fun e => by subst e; rw [hA] at hr'; simp at hr'
    have h2 : r' ≠ r2 := fun e => by subst e; rw [hA2] at hr'; simp at hr'
    rw [List.getElem?_set_ne (fun e => h2 e.symm), List.getElem?_set_ne (fun e => h1 e.symm)]; exact hr'

omit [Bad] in
omit DW in
theorem ds_at {cs : List V} {ds : List D} {c : Nat} {x : D} (h : toDs (cs.set c (.d x)) = some ds) (hc : c < cs.length) : ds[c]? = some x := by
  have h1 := toDs_some h
  have h2 : (List.map V.d ds)[c]? = some (.d x) := by rw [← h1, List.getElem?_set, if_pos rfl, if_pos hc]
  rw [List.getElem?_map, Option.map_eq_some_iff] at h2
  obtain ⟨y, hy, he⟩ := h2
  injection he with he
  rw [hy, he]
omit [Bad] in
omit DW in
theorem ds_off {cs : List V} {ds : List D} {c q : Nat} {x y : D} (h : toDs (cs.set c (.d x)) = some ds) (hq : q ≠ c) (hy : ds[q]? = some y) : cs[q]? = some (.d y) := by
  have h1 := toDs_some h
  have h2 : (List.map V.d ds)[q]? = some (.d y) := by rw [List.getElem?_map, hy]; rfl
  rw [← h1, List.getElem?_set_ne (fun e => hq e.symm)] at h2
  exact h2
omit [Bad] in
omit DW in
theorem ds_len {cs : List V} {ds : List D} {c : Nat} {x : D} (h : toDs (cs.set c (.d x)) = some ds) : ds.length = cs.length := by
  have := congrArg List.length (toDs_some h)
  simp at this; omega

theorem gives_appN (hE : EnvOK E P) (hz : ∀ t i, look E.tys t = some i → i.zero.cells.size = i.size) (hR : Roots w A F) (hS : Slots w A t a.tmps) (c : Call) (ho : o.op = .call c) {x y : Operand} {tx e : TypeId} (hc : c.callee = .builtin .append) (hargs : c.args = #[x, y]) (htys : c.argTypes = #[tx, tx])
    (h2 : P.underlying tx = some (.slice e)) {q : TI} (hq : look E.tys e = some q) {s : Nat} {T0 : NT} {cs : List V} (hvx : val t x = .nsl s) (hvy : val t y = .lst T0 cs) (h : appN e q.size q.bytes s cs t F k = some r) : GivesE P w A a o k r := by
  unfold appN at h
  split at h
  case h_2 => simp at h
  rename_i T n rows hroot
  split at h
  case h_2 => simp at h
  rename_i r2 hcc
  split at h
  case h_2 => simp at h
  rename_i e2 es2 rws hroot2
  split at h
  case h_2 => simp at h
  rename_i ds hds
  split at h
  case h_2 => simp at h
  rename_i c1 c2 c3 c4 c5 c6 c7
  split at h
  case h_2 => simp at h
  rename_i c8
  rw [forceAll_eq, forceF_eq] at h
  have c1 : e = T.e := Nat.eq_of_beq_eq_true c1
  have c2 : q.size = T.es := Nat.eq_of_beq_eq_true c2
  have c3 : ds.length = T.es := Nat.eq_of_beq_eq_true c3
  have c4 : e2 = T.e2 := Nat.eq_of_beq_eq_true c4
  have c5 : es2 = T.es2 := Nat.eq_of_beq_eq_true c5
  have c6 : n = rows.length := Nat.eq_of_beq_eq_true c6
  have hb0 : 0 < q.bytes := Nat.le_of_ble_eq_true c8
  have hby : (rows.length + 1) * q.bytes ≤ 140737488355328 := Nat.ble_eq.mp c7
  have h63 : rows.length + 1 ≤ maxLen := by
    have := Nat.le_trans (Nat.le_mul_of_pos_right (rows.length + 1) hb0) hby
    unfold maxLen; omega
  subst c1
  subst c4
  subst c5
  obtain ⟨tq, g1, g2, g3, g4, g5⟩ := hE.ty _ _ hq
  obtain ⟨v0, us, hA, hN⟩ := nst_at hR hroot
  have hv := val_rel hS x
  rw [hvx] at hv
  generalize hex : a.eval x = ux at hv
  have hform : SlOf v0 ux := by
    cases hv with
    | nsl _ v1 T1 n1 vs1 hA1 _ hs1 => rw [hA] at hA1; injection hA1 with hA1; injection hA1 with hA1; injection hA1 with e1; subst e1; exact hs1
  have hy := val_rel hS y
  rw [hvy] at hy
  generalize hey : a.eval y = uy at hy
  obtain ⟨xs, how, _⟩ := hN.rep
  cases hy with
  | lst _ _ vs g hg hf h1 hn hcv =>
  have hcl : T.c2 < cs.length := (List.getElem?_eq_some_iff.mp hcc).1
  have hdl := ds_len hds
  have hvs : vs.toList.length = T.es := by simp; omega
  obtain ⟨uc, huc⟩ : ∃ uc, vs[T.c2]? = some uc := ⟨vs[T.c2]'(by omega), by simp [show T.c2 < vs.size by omega]⟩
  obtain ⟨v2, hA2, hs2, hown, h02⟩ := own_of_root hR hroot2 (hcv _ _ _ hcc huc)
  have hne : s ≠ r2 := fun e => by subst e; rw [hA] at hA2; simp at hA2
  obtain ⟨v', u', w', k1, kS, k2, k3, k4⟩ := append_run2 (P := P) (ty := o.type) h2 g1 g5 (g3.trans c2) (by rw [hz _ _ hq]; exact c2) (Nat.lt_of_le_of_lt (Nat.zero_le _) hN.c2) how hform (u := .slice (some ⟨g, 0, none⟩) 1 1) (m := 1) (news := vs.toList) (by rw [hvs, Nat.one_mul]) h1
    (.inr ⟨⟨g, 0, none⟩, 1, rfl, fun j x hj => by rw [add_at, Nat.zero_add]; simp only [World.cell?, hg]; simpa using hj⟩) h63 (by rw [g4]; exact hby)
  have hrun : (execOp a.eval o).run P w = .ok (.value u') w' := by
    simp only [execOp, ho, Sem.run_bind, resolve, hc, hargs, htys]
    simp [hex, hey, invoke, builtin, k1]
  exact app_fin hR hS hA hN hA2 (fun g e => by simp at e) hne (fun b hb => hb) c6 how (by simpa using k2) k3 k4 kS c3 hvs (by simpa using huc)
    (fun q x y hq hx hy => by
      have h3 := ds_off hds hq hx
      have h4 := hcv q _ y h3 (by simpa using hy)
      cases h4 with
      | d _ _ h => exact h) hs2 (ds_at hds hcl) hown hrun h

theorem gives_appNN (hE : EnvOK E P) (hz : ∀ t i, look E.tys t = some i → i.zero.cells.size = i.size) (hR : Roots w A F) (hS : Slots w A t a.tmps) (c : Call) (ho : o.op = .call c) {x y : Operand} {tx e : TypeId} (hc : c.callee = .builtin .append) (hargs : c.args = #[x, y]) (htys : c.argTypes = #[tx, tx])
    (h2 : P.underlying tx = some (.slice e)) {q : TI} (hq : look E.tys e = some q) {s r2 : Nat} (hvx : val t x = .nsl s) (hvy : val t y = .nsl r2) (h : appNN e q.size q.bytes s r2 t F k = some r) : GivesE P w A a o k r := by
  unfold appNN at h
  split at h
  case h_2 => simp at h
  rename_i T n rows T2 ds hroot hroot2
  split at h
  case h_2 => simp at h
  rename_i c1 c2 c3 d1 d2 d3 c6 c7
  split at h
  case h_2 => simp at h
  rename_i c8 c9
  rw [forceAll_eq, forceF_eq] at h
  have c1 : e = T.e := Nat.eq_of_beq_eq_true c1
  have c2 : q.size = T.es := Nat.eq_of_beq_eq_true c2
  have c3 : T2.c2 = T.c2 := Nat.eq_of_beq_eq_true c3
  have d1 : T2.es = T.es := Nat.eq_of_beq_eq_true d1
  have d2 : T2.e2 = T.e2 := Nat.eq_of_beq_eq_true d2
  have d3 : T2.es2 = T.es2 := Nat.eq_of_beq_eq_true d3
  have c6 : n = rows.length := Nat.eq_of_beq_eq_true c6
  have hne : s ≠ r2 := fun e => by subst e; simp at c9
  have hb0 : 0 < q.bytes := Nat.le_of_ble_eq_true c8
  have hby : (rows.length + 1) * q.bytes ≤ 140737488355328 := Nat.ble_eq.mp c7
  have h63 : rows.length + 1 ≤ maxLen := by
    have := Nat.le_trans (Nat.le_mul_of_pos_right (rows.length + 1) hb0) hby
    unfold maxLen; omega
  subst c1
  obtain ⟨tq, g1, g2, g3, g4, g5⟩ := hE.ty _ _ hq
  obtain ⟨v0, us, hA, hN⟩ := nst_at hR hroot
  obtain ⟨v2, us2, hA2, hN2⟩ := nst_at hR hroot2
  have hv := val_rel hS x
  rw [hvx] at hv
  generalize hex : a.eval x = ux at hv
  have hform : SlOf v0 ux := by
    cases hv with
    | nsl _ v1 T1 n1 vs1 hA1 _ hs1 => rw [hA] at hA1; injection hA1 with hA1; injection hA1 with hA1; injection hA1 with e1; subst e1; exact hs1
  have hy := val_rel hS y
  rw [hvy] at hy
  generalize hey : a.eval y = uy at hy
  have hformy : SlOf v2 uy := by
    cases hy with
    | nsl _ v1 T1 n1 vs1 hA1 _ hs1 => rw [hA2] at hA1; injection hA1 with hA1; injection hA1 with hA1; injection hA1 with e1; subst e1; exact hs1
  obtain ⟨xs, how, _⟩ := hN.rep
  obtain ⟨ys, how2, hcl2⟩ := hN2.rep
  obtain ⟨⟨y0, u2, uc, p1, p2, p3, p4⟩, p5⟩ := hcl2 0 ds rfl
  rw [Nat.zero_mul, Nat.zero_add, c3] at p3
  rw [c3] at p1
  obtain ⟨hs2, rws, rfl, hown⟩ : SlOf u2 uc ∧ ∃ rws, y0 = .arr rws ∧ NOwn w (Free A) T2.e2 T2.es2 rws u2 := by
    rcases p4 with ⟨_, p4⟩ | ⟨p4, _⟩
    · exact p4
    · omega
  have hdl : ds.length = T.es := by rw [← d1]; exact hN2.len ds (by simp)
  have hyl : ys.length = T.es := by have := how2.1; rw [d1] at this; simpa using this
  obtain ⟨g, cap, cur, rfl, _, ⟨fz, hg, _⟩, hnc, _, _, hyt⟩ : ∃ g cap cur, v2 = .slice (some ⟨g, 0, none⟩) 1 cap ∧ 0 ≤ g ∧ (∃ fz, w.heap[g]? = some (.cells cur T2.e fz) ∧ Mk T2.e cur fz) ∧ 1 ≤ cap ∧ cap ≤ maxLen ∧ cur.size = cap * T2.es ∧ cur.toList.take (1 * T2.es) = ys := by
    rcases how2.2 with ⟨_, h0⟩ | h0
    · simp at h0
    · exact h0
  obtain ⟨_, rfl | ⟨h0, _⟩⟩ := hformy
  case inr => cases h0
  have hcells : ∀ j x, ys[j]? = some x → w.cell? ((⟨g, 0, none⟩ : Addr).add j) = some x := how2.cells (g := g) rfl
  obtain ⟨v', u', w', k1, kS, k2, k3, k4⟩ := append_run2 (P := P) (ty := o.type) h2 g1 g5 (g3.trans c2) (by rw [hz _ _ hq]; exact c2) (Nat.lt_of_le_of_lt (Nat.zero_le _) hN.c2) how hform (u := .slice (some ⟨g, 0, none⟩) 1 cap) (m := 1) (news := ys) (by rw [hyl, Nat.one_mul])
    (fun u hu => by
      obtain ⟨j, hj⟩ := List.mem_iff_getElem?.mp hu
      by_cases hjc : j = T.c2
      · subst hjc; rw [p3] at hj; injection hj with hj; subst hj; obtain ⟨⟨p, n, c, rfl⟩, _⟩ := hs2; rfl
      · have hjl : j < ds.length := by rw [hdl, ← hyl]; exact (List.getElem?_eq_some_iff.mp hj).1
        exact (p5 j ds[j] u (by rw [c3]; exact hjc) (by simp [hjl]) (by rw [Nat.zero_mul, Nat.zero_add]; exact hj)).one)
    (.inr ⟨⟨g, 0, none⟩, cap, rfl, hcells⟩) h63 (by rw [g4]; exact hby)
  have hrun : (execOp a.eval o).run P w = .ok (.value u') w' := by
    simp only [execOp, ho, Sem.run_bind, resolve, hc, hargs, htys]
    simp [hex, hey, invoke, builtin, k1]
  rw [d2, d3] at hown
  exact app_fin hR hS hA hN hA2 (fun g e => by simp at e) hne (fun b hb => .inr ⟨0, u2, Nat.zero_lt_one, p2, hb⟩) c6 how k2 k3 k4 kS hdl hyl p3
    (fun q x y hq hx hy => p5 q x y (by rw [c3]; exact hq) hx (by rw [Nat.zero_mul, Nat.zero_add]; exact hy)) hs2 p1 hown hrun h

theorem gives_append (hE : EnvOK E P) (hz : ∀ t i, look E.tys t = some i → i.zero.cells.size = i.size) (hR : Roots w A F) (hS : Slots w A t a.tmps) (c : Call) (ho : o.op = .call c) {x y : Operand} {tx ty : TypeId} (hc : c.callee = .builtin .append) (hx : c.args.toList = [x, y]) (hty : c.argTypes.toList = [tx, ty]) (h : opE E t F o k = some r) : GivesE P w A a o k r := by
  simp only [opE, ho, hc, hx, hty] at h
  have hargs : c.args = #[x, y] := by apply Array.ext'; simpa using hx
  have htys : c.argTypes = #[tx, ty] := by apply Array.ext'; simpa using hty
  split at h
  case h_2 => simp at h
  rename_i i j hi hj
  split at h
  case h_2 => simp at h
  rename_i e e' hd hd'
  split at h
  case h_2 => simp at h
  rename_i q hq hxy
  have : tx = ty := Nat.eq_of_beq_eq_true hxy
  subst this
  split at h
  case h_3 => simp at h
  case h_1 =>
    rename_i s hvx
    obtain ⟨_, _, h2, _⟩ := hE.ty _ _ hi
    rw [hd] at h2
    split at h
    · rename_i T0 cs hvy; exact gives_appN hE hz hR hS c ho hc hargs htys h2 hq hvx hvy h
    · rename_i r2 hvy; exact gives_appNN hE hz hR hS c ho hc hargs htys h2 hq hvx hvy h
    · simp at h
  rename_i s news hvx hnews
  split at h
  case h_2 => simp at h
  rename_i e2 es2 rows hroot
  split at h
  case h_2 => simp at h
  rename_i c1 c2 c3
  split at h
  case h_2 => simp at h
  rename_i c4
  split at h
  case h_2 => simp at h
  rename_i c5
  rw [forceAll_eq, forceF_eq] at h
  have : e = e2 := Nat.eq_of_beq_eq_true c1
  subst this
  have hq2 : es2 = q.size := Nat.eq_of_beq_eq_true c2
  subst hq2
  have hb0 : 0 < q.bytes := by have := c3; simp [Nat.blt_eq] at this; exact this
  have hby : (rows.length + news.length) * q.bytes ≤ 140737488355328 := Nat.ble_eq.mp c4
  have h63 : rows.length + news.length ≤ maxLen := by
    have := Nat.le_trans (Nat.le_mul_of_pos_right (rows.length + news.length) hb0) hby
    unfold maxLen; omega
  obtain ⟨_, _, h2, _⟩ := hE.ty _ _ hi
  rw [hd] at h2
  obtain ⟨tq, g1, g2, g3, g4, g5⟩ := hE.ty _ _ hq
  obtain ⟨ri, r1, r2⟩ := hR.rel s _ (root_get hroot)
  have hv := val_rel hS x
  rw [hvx] at hv
  generalize hex : a.eval x = ux at hv
  cases hv with
  | sl _ v0 e3 es hA _ hform =>
  rw [hA] at r1
  injection r1 with r1; injection r1 with r1
  subst r1
  obtain ⟨he3, hes3, hes, hl, xs, how, hrep⟩ := r2
  subst he3
  subst hes3
  obtain ⟨hkR, hkV⟩ := kill_all hR hroot
  have hnl := allLen_all c5
  obtain ⟨ys, hyl, hyu, hyrep⟩ : ∃ ys : List Value, ys.length = news.length * q.size ∧
      ((ys = [] ∧ ∃ p cap, a.eval y = .slice p 0 cap ∧ (p = none → cap = 0)) ∨ ∃ (ad : Addr) (cap : Nat), a.eval y = .slice (some ad) news.length cap ∧ ∀ j x, ys[j]? = some x → w.cell? (ad.add j) = some x) ∧
      RepL w (Free A) news.flatten ys := by
    rcases rows_cells hR (val_rel hS y) hnews with ⟨rfl, p, cap, hu, hp⟩ | ⟨b, o', es', cap, ys, hu, hes', hl', hm', hrep', hc'⟩
    · exact ⟨[], by simp, .inl ⟨rfl, p, cap, hu, hp⟩, by simpa using RepL.nil w (Free A)⟩
    · refine ⟨ys, ?_, .inr ⟨⟨b, o', none⟩, cap, hu, fun j x hj => by rw [add_at]; exact hc' j x hj⟩, hrep'⟩
      rw [← hrep'.1, flat_len news hnl]
  have hone : ∀ u ∈ ys, u.oneCell' = true := repL_one hyrep
  obtain ⟨v', u', w', k1, kS, k2, k3, k4⟩ := append_run2 (P := P) (ty := o.type) h2 g1 g5 g3 (by rw [hz _ _ hq]) hes how hform hyl hone hyu h63 (by rw [g4]; exact hby)
  have hrun : (execOp a.eval o).run P w = .ok (.value u') w' := by
    simp only [execOp, ho, Sem.run_bind, resolve, hc, hargs, htys]
    simp [hex, invoke, builtin, k1]
  have hvb : ∀ b, v'.ownBlock = some b → (RI.arr v0 e q.size).has b ∨ w.heap.size ≤ b := fun b hb => k4 b hb
  have hlt' : ∀ b, v'.ownBlock = some b → b < w'.heap.size := by
    intro b hb
    rcases k2.2 with ⟨rfl, _⟩ | ⟨g, _, _, rfl, _, ⟨_, hh, _⟩, _⟩
    · simp [Value.ownBlock] at hb
    · simp only [Value.ownBlock, Option.some.injEq] at hb
      subst hb
      exact (Array.getElem?_eq_some_iff.mp hh).1
  have hsame : ∀ b, b < w.heap.size → ¬ (RI.arr v0 e q.size).has b → w'.heap[b]? = w.heap[b]? := fun b hb hne => k3.block b hb (fun e => hne e.symm)
  have hfree : ∀ b, Free A b → b < w.heap.size → Free (A.set s none ++ [some (.arr v' e q.size)]) b := by
    refine fun b hf hb => ⟨fun ho => ?_, hf.2⟩
    rcases own_append ho with h1 | h1
    · exact hf.1 (own_drop h1)
    · rcases hvb b h1 with h3 | h3
      · exact hf.1 ⟨s, _, hA, h3⟩
      · omega
  have hwf : ∀ b, Free A b → b < w.heap.size → w'.heap[b]? = w.heap[b]? := fun b hf hb => hsame b hb (fun e => hf.1 ⟨s, _, hA, e⟩)
  have hkeep : ∀ (r' : Nat) (y : RI), A[r']? = some (some y) → r' ≠ s → (A.set s none ++ [some (RI.arr v' e q.size)])[r']? = some (some y) := fun r' y hy hne => get_append (get_drop hy hne)
  have hsub : ∀ {c : V} {u : Value}, RelV w A c u → RelV w' (A.set s none ++ [some (.arr v' e q.size)]) (subV (killS s) (killP s) .bp c) u := by
    intro c u hc
    refine sub_rel hwf hfree (fun r' v1 e' es' hA1 u1 hv1 => ?_) (fun r' i j g n cap es' e' hA1 => ?_) (fun r' j g hA1 => ?_) (fun r' v1 T n vs hA1 => ?_) hc
    · unfold killS
      split
      · exact .dead _
      · rename_i hb
        exact .sl r' v1 e' es' (hkeep _ _ hA1 (fun e => by subst e; simp at hb)) u1 hv1
    · unfold killP
      split
      · exact .dead _
      · rename_i hb
        exact .ptr r' i j g n cap es' e' (hkeep _ _ hA1 (fun e => by subst e; simp at hb))
    · exact .bp r' j g (hkeep _ _ hA1 (fun e => by subst e; rw [hA] at hA1; simp at hA1))
    · exact subN_kill fun hr => hkeep _ _ hA1 fun e => hr e.symm
  have hroot' : RootRel w' (A.set s none ++ [some (.arr v' e q.size)]) (.arr v' e q.size) (.arr e q.size (rows ++ news)) := by
    refine ⟨rfl, rfl, hes, fun row hrow => ?_, xs ++ ys, ?_, ?_⟩
    · rcases List.mem_append.mp hrow with h1 | h1
      · exact hl row h1
      · exact hnl row h1
    · rw [List.length_append]; exact k2
    · rw [List.flatten_append]; exact (hrep.append hyrep).mono hwf hfree
  refine ⟨_, u', _, _, A.set s none ++ [some (.arr v' e q.size)], w', h, .inl hrun, hR.renew (ri := .arr v' e q.size) hA hsame k3.size (fun b hb => ⟨hvb b hb, hlt' b hb⟩) hsub hroot', hS.sub hsub, ?_, ?_, ?_, ?_⟩
  · refine .sl _ v' e q.size ?_ _ kS
    have : F.length = (A.set s none).length := by simp [hR.len]
    rw [this]; simp
  · exact ⟨fun _ => run_drawn _ hrun, k3.os, k3.tape, k3.output, k3.size, fun b hb hf => hsame b hb (fun e => hf ⟨s, _, hA, e⟩)⟩
  · refine ⟨by simp, fun r' y hy => ?_, fun b ho => ?_⟩
    · rcases (Grows.drop A w s).old r' y hy with h1 | h1
      · exact .inl (get_append h1)
      · exact .inr (get_append h1)
    · rcases own_append ho with h1 | h1
      · exact .inl (own_drop h1)
      · rcases hvb b h1 with h3 | h3
        · exact .inl ⟨s, _, hA, h3⟩
        · exact .inr h3
  · intro r' hr'
    refine get_append ?_
    by_cases hne : r' = s
    · subst hne; rw [hA] at hr'; simp at hr'
    · rw [List.getElem?_set_ne (fun e => hne e.symm)]; exact hr'

end
end Go.Proofs.YtjnhclnnobejgaaE

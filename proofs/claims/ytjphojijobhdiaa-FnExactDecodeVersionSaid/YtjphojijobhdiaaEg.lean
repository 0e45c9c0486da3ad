/- The engine, seventh part: the operations that make and write memory do on the machine what the interpreter says; conditions: the tables are the program's own. -/
import Derived.Test.YtjphojijobhdiaaEf
import Derived.ArgAppend
namespace Go.Proofs.YtjphojijobhdiaaE
open Go.RowKit
set_option linter.unusedVariables false
variable [Bad]
set_option linter.unusedSimpArgs false

/-- What the interpreter hands on, and that the machine comes to it. -/
def GivesE {R : Type} (P : Program) (w : World) (A : List (Option RI)) (a : Act) (o : Oper) (k : V → List V → Fo → Option R) (r : R) : Prop :=
  ∃ v u t' F' A' w', k v t' F' = some r ∧ ((execOp a.eval o).run P w = .ok (.value u) w' ∨ ((execOp a.eval o).run P w = .ok .skip w' ∧ u = undef)) ∧
    Roots w' A' F' ∧ Slots w' A' t' a.tmps ∧ RelV w' A' v u ∧ Step A w w' ∧ Grows A A' w ∧ (∀ (r : Nat), A[r]? = some none → A'[r]? = some none)

section
variable {R : Type} {E : Env} {P : Program} {w : World} {A : List (Option RI)} {F : Fo} {t : List V} {a : Act} {o : Oper} {k : V → List V → Fo → Option R} {r : R}

omit [Bad] in
theorem none_append {A : List (Option RI)} {x : Option RI} : ∀ (r : Nat), A[r]? = some none → (A ++ [x])[r]? = some none := fun r h => get_append h

omit [Bad] in
theorem below_push (w : World) (ob : Obj) : Below w.heap.size w { w with heap := w.heap.push ob } :=
  ⟨rfl, rfl, rfl, by simp, fun k hk => by simp [Array.getElem?_push, Nat.ne_of_lt hk]⟩
omit [Bad] in
theorem push_new (w : World) (ob : Obj) : ({ w with heap := w.heap.push ob } : World).heap[w.heap.size]? = some ob := by simp

/-- A new variable. -/
theorem new_box (hR : Roots w A F) (hS : Slots w A t a.tmps) {cs : List V} {cells : Array Value} (hc : RelL w A cs cells.toList) (ty : TypeId)
    (hk : k (.bp F.length 0) t (F ++ [some (.box cs)]) = some r)
    (hrun : (execOp a.eval o).run P w = .ok (.value (.pointer (some ⟨w.heap.size, 0, none⟩))) { w with heap := w.heap.push (.cells cells ty) }) : GivesE P w A a o k r := by
  have hb := below_push w (.cells cells ty)
  have hA : A[F.length]? = none := by rw [← hR.len]; simp
  have hg : ∀ b, (RI.box w.heap.size).blk = some b → w.heap.size ≤ b ∧ b < ({ w with heap := w.heap.push (.cells cells ty) } : World).heap.size := by
    intro b h; injection h with h; subst h; simp
  have hmono := fun (b : Nat) (_ : Free A b) (hlt : b < w.heap.size) => hb.block b hlt
  have hfree := free_append (A := A) (ri := .box w.heap.size) (w := w) (fun b h => (hg b h).1)
  refine ⟨_, _, _, _, A ++ [some (.box w.heap.size)], _, hk, .inl hrun, hR.grow hb hg ?_, hS.mono hmono hfree (fun _ _ h => get_append h), ?_, .of_below hb, .append (fun b h => (hg b h).1), none_append⟩
  · exact ⟨cells, ty, push_new _ _, hc.mono hmono hfree (fun _ _ h => get_append h)⟩
  · refine .bp _ _ _ ?_
    rw [← hR.len]; simp

theorem gives_alloc (hE : EnvOK E P) (hR : Roots w A F) (hS : Slots w A t a.tmps) (ty : TypeId) (ho : o.op = .alloc ty) (h : opE E t F o k = some r) : GivesE P w A a o k r := by
  simp only [opE, ho] at h
  split at h
  case h_2 => simp at h
  rename_i i hi
  obtain ⟨ti, h1, h2, h3, h4, h5⟩ := hE.ty _ _ hi
  refine new_box hR hS (zeros_rel w A i.zero) ty h ?_
  simp only [execOp, ho, Sem.run_bind, Instr.alloc, zeroValue, typeInfo, run_program, Result.andThen_ok, h1, Sem.run_pure, h5, newVar, newRow, run_newObj]

theorem gives_box (hE : EnvOK E P) (hR : Roots w A F) (hS : Slots w A t a.tmps) (ty : TypeId) (x : Operand) (ho : o.op = .box ty x) (h : opE E t F o k = some r) : GivesE P w A a o k r := by
  simp only [opE, ho] at h
  split at h
  case h_2 => simp at h
  rename_i hl
  refine new_box hR hS (cells_rel (val_rel hS x) hl).1 ty h ?_
  simp only [execOp, ho, Sem.run_bind, Instr.box, newVar, newRow, run_newObj, Result.andThen_ok, Sem.run_pure]

/-- A new row. -/
theorem new_row (hR : Roots w A F) (hS : Slots w A t a.tmps) {e : TypeId} {es : Nat} {rows : List (List D)} {xs : List Value} {cap : Nat} {cells : Array Value} {w1 : World}
    (hes : 0 < es) (hl : ∀ row ∈ rows, row.length = es) (hrep : RepL w (Free A) rows.flatten xs) (hw1 : Below w.heap.size w w1) (hs1 : w1.heap.size = w.heap.size)
    (hcap : rows.length ≤ cap) (hmax : cap ≤ maxLen) (hcs : cells.size = cap * es) (htake : cells.toList.take (rows.length * es) = xs)
    (hk : k (.sl F.length) t (F ++ [some (.arr e es rows)]) = some r)
    (hrun : (execOp a.eval o).run P w = .ok (.value (.slice (some ⟨w.heap.size, 0, none⟩) rows.length cap)) { w1 with heap := w1.heap.push (.cells cells e) }) : GivesE P w A a o k r := by
  have hb : Below w.heap.size w { w1 with heap := w1.heap.push (.cells cells e) } := hw1.trans (by have := below_push w1 (.cells cells e); rw [hs1] at this; exact this)
  have hnew : ({ w1 with heap := w1.heap.push (.cells cells e) } : World).heap[w.heap.size]? = some (.cells cells e) := by rw [← hs1]; exact push_new _ _
  have hg : ∀ b, (RI.arr (.slice (some ⟨w.heap.size, 0, none⟩) rows.length cap) e es).blk = some b → w.heap.size ≤ b ∧ b < ({ w1 with heap := w1.heap.push (.cells cells e) } : World).heap.size := by
    intro b h; injection h with h; subst h; simp [hs1]
  have hmono := fun (b : Nat) (_ : Free A b) (hlt : b < w.heap.size) => hb.block b hlt
  have hfree := free_append (A := A) (ri := .arr (.slice (some ⟨w.heap.size, 0, none⟩) rows.length cap) e es) (w := w) (fun b h => (hg b h).1)
  refine ⟨_, _, _, _, A ++ [some (.arr (.slice (some ⟨w.heap.size, 0, none⟩) rows.length cap) e es)], _, hk, .inl hrun, hR.grow hb hg ?_, hS.mono hmono hfree (fun _ _ h => get_append h), ?_, .of_below hb,
    .append (fun b h => (hg b h).1), none_append⟩
  · refine ⟨rfl, rfl, hes, hl, xs, ⟨?_, .inr ⟨w.heap.size, cap, cells, rfl, Nat.zero_le _, hnew, hcap, hmax, hcs, htake⟩⟩, hrep.mono hmono hfree⟩
    rw [← hrep.1, flat_len rows hl]
  · refine .sl _ _ e es ?_ _ (.of _ _ _)
    rw [← hR.len]; simp

omit [Bad] in
theorem toDs_some : ∀ {cs : List V} {ds : List D}, toDs cs = some ds → cs = ds.map V.d
  | [], ds, h => by simp [toDs] at h; subst h; rfl
  | c :: cs, ds, h => by
    cases c <;> simp only [toDs] at h <;> try (simp at h; done)
    split at h
    · rename_i ds' h'
      injection h with h
      subst h
      rw [toDs_some h']; rfl
    · simp at h

theorem toDs_rep {cs : List V} {ds : List D} (h : toDs cs = some ds) {vs : List Value} (hr : RelL w A cs vs) : RepL w (Free A) ds vs := by
  have := toDs_some h
  subst this
  refine ⟨by simpa using hr.1, fun i x v h1 h2 => ?_⟩
  have := hr.2 i (.d x) v (by rw [List.getElem?_map, h1]; rfl) h2
  cases this with
  | d _ _ h => exact h

omit [Bad] in
theorem rep_flat {S : Nat → Prop} {z : List D} {vs : List Value} (h : RepL w S z vs) : ∀ n, RepL w S (List.replicate n z).flatten (List.replicate n vs).flatten
  | 0 => by simpa using RepL.nil w S
  | n + 1 => by
    rw [List.replicate_succ, List.replicate_succ, List.flatten_cons, List.flatten_cons]
    exact h.append (rep_flat h n)

omit [Bad] in
theorem made_flat (z : Array Value) (hz : 0 < z.size) : ∀ n, (madeCells z (n * z.size)).toList = (List.replicate n z.toList).flatten := by
  intro n
  apply List.ext_getElem?
  intro i
  have hl : ∀ row ∈ List.replicate n z.toList, row.length = z.size := fun row h => by rw [List.eq_of_mem_replicate h]; simp
  by_cases hi : i < n * z.size
  · have hq : i / z.size < n := by rw [Nat.div_lt_iff_lt_mul hz]; exact hi
    have hm : i % z.size < z.size := Nat.mod_lt _ hz
    have e : i = i / z.size * z.size + i % z.size := by rw [Nat.mul_comm]; exact (Nat.div_add_mod i z.size).symm
    have h1 := flat_get (List.replicate n z.toList) hl (i / z.size) (i % z.size) z.toList (by simp [List.getElem?_replicate, hq]) hm
    rw [← e] at h1
    rw [h1]
    simp [madeCells, hi, hm]
  · rw [List.getElem?_eq_none (by simp [madeCells]; omega), List.getElem?_eq_none (by rw [flat_len _ hl]; simp; omega)]

theorem gives_make (hE : EnvOK E P) (hR : Roots w A F) (hS : Slots w A t a.tmps) (ty : TypeId) (l c : Operand) (ho : o.op = .makeSlice ty l c) (h : opE E t F o k = some r) : GivesE P w A a o k r := by
  simp only [opE, ho] at h
  split at h
  case h_2 => simp at h
  rename_i i hi
  split at h
  case h_2 => simp at h
  rename_i e hd
  split at h
  case h_2 => simp at h
  rename_i j hj
  split at h
  case h_2 => simp at h
  rename_i k1 n k2 m hln hcn
  split at h
  case h_2 => simp at h
  rename_i c1
  simp only [mkOk, Bool.and_eq_true, decide_eq_true_eq] at c1
  obtain ⟨n0, nm, hby, c4, c5⟩ := c1
  split at h
  case h_2 => simp at h
  rename_i z hz
  split at h
  case h_2 => simp at h
  rename_i c6 c7
  obtain ⟨_, _, h2, _⟩ := hE.ty _ _ hi
  rw [hd] at h2
  obtain ⟨tj, g1, g2, g3, g4, g5⟩ := hE.ty _ _ hj
  have m0 : 0 ≤ m := by omega
  have hsz : 0 < j.size := by
    have := c4; simp [Nat.blt_eq] at this; exact this
  have hb0 : 0 < j.bytes := by
    have := c5; simp [Nat.blt_eq] at this; exact this
  have hzl : z.length = j.size := Nat.eq_of_beq_eq_true c6
  have hn : m.toNat ≤ 140737488355328 := Nat.le_trans (Nat.le_mul_of_pos_left _ hb0) hby
  have hnm : n.toNat ≤ m.toNat := by omega
  have hzr := toDs_rep hz (zeros_rel w A j.zero)
  have hzc : j.zero.cells.size = j.size := by
    have := hzr.1; simp at this; omega
  have hrun := run_make (P := P) w ty e tj j.zero h2 g1 g5 k1 k2 n m n0 nm (by
    rw [g4]
    have : ((j.bytes * m.toNat : Nat) : Int) ≤ ((140737488355328 : Nat) : Int) := Int.ofNat_le.mpr hby
    rw [Int.natCast_mul, Int.toNat_of_nonneg m0] at this
    omega) (by omega)
  rw [g3] at hrun
  have hl : ∀ row ∈ List.replicate n.toNat z, row.length = j.size := fun row h => by rw [List.eq_of_mem_replicate h]; exact hzl
  have hfl := made_flat j.zero.cells (by omega) m.toNat
  rw [hzc] at hfl
  refine new_row (e := e) (es := j.size) (rows := List.replicate n.toNat z) (xs := (List.replicate n.toNat j.zero.cells.toList).flatten) (cap := m.toNat) (cells := madeCells j.zero.cells (m.toNat * j.size)) (w1 := w)
    hR hS hsz hl (rep_flat hzr n.toNat) (Below.refl _ _) rfl (by simpa using hnm) (by unfold maxLen; omega) (by simp [madeCells]) ?_ h ?_
  · rw [hfl]
    simp only [List.length_replicate]
    have hfn : (List.replicate n.toNat j.zero.cells.toList).flatten.length = n.toNat * j.size := by
      rw [flat_len (List.replicate n.toNat j.zero.cells.toList) (es := j.size) (fun row h => by rw [List.eq_of_mem_replicate h]; simpa using hzc)]; simp
    rw [show m.toNat = n.toNat + (m.toNat - n.toNat) by omega, ← List.replicate_append_replicate, List.flatten_append, List.take_append_of_le_length (by omega)]
    exact List.take_of_length_le (by omega)
  · simp only [execOp, ho, Sem.run_bind, eval_lit hS hln, eval_lit hS hcn, hrun, Result.andThen_ok, Sem.run_pure, List.length_replicate]
    rfl

omit [Bad] in
/-- An append to a row of the frame's own. -/
theorem append_run {t ty e : TypeId} {i : TypeInfo} {z : Value} {size : Nat} (ht : P.underlying t = some (.slice e)) (hi : P.info? e = some i) (hz : i.zero = some z)
    (hsize : i.size = size) (hzs : z.cells.size = size) (hsz : 0 < size) {v : Value} {n : Nat} {xs : List Value} (how : w.ownsRow 0 e size v n xs)
    {u : Value} {m : Nat} {news : List Value} (hl : news.length = m * size) (h1 : ∀ u ∈ news, u.oneCell' = true)
    (hu : (news = [] ∧ ∃ p cap, u = .slice p 0 cap ∧ (p = none → cap = 0)) ∨ ∃ (a : Addr) (cap : Nat), u = .slice (some a) m cap ∧ ∀ j x, news[j]? = some x → w.cell? (a.add j) = some x)
    (h63 : n + m ≤ maxLen) (hbytes : (n + m) * i.bytes ≤ 140737488355328) :
    ∃ v' w', (Builtin.append_ #[t, t] ty #[v, u]).run P w = .ok v' w' ∧ w'.ownsRow 0 e size v' (n + m) (xs ++ news) ∧ w.grownBy w' v.ownBlock ∧
      (∀ b, v'.ownBlock = some b → v.ownBlock = some b ∨ w.heap.size ≤ b) := by
  have main : ∀ (a : Addr) (cap : Nat), (∀ j x, news[j]? = some x → w.cell? (a.add j) = some x) →
      ∃ v' w', (Builtin.append_ #[t, t] ty #[v, .slice (some a) m cap]).run P w = .ok v' w' ∧ w'.ownsRow 0 e size v' (n + m) (xs ++ news) ∧ w.grownBy w' v.ownBlock ∧
      (∀ b, v'.ownBlock = some b → v.ownBlock = some b ∨ w.heap.size ≤ b) := by
    intro a cap hc
    obtain ⟨v', w', g1, g2, g3, _⟩ := run_append_own (P := P) w 0 t ty e i z size i.bytes ht hi hz hsize rfl hzs hsz v n xs how a m cap news hl hc h1 h63 hbytes (Nat.zero_le _)
    refine ⟨v', w', g1, g2, g3, fun b hb => ?_⟩
    rcases how.2 with ⟨rfl, hz0⟩ | ⟨g, cp, cur, rfl, _, hh, hnc, hcm, hcs, htake⟩
    · have how' : w.ownsRow w.heap.size e size (.slice none 0 0) n xs := ⟨how.1, .inl ⟨rfl, hz0⟩⟩
      obtain ⟨v2, w2, k1, k2, _, _⟩ := run_append_own (P := P) w w.heap.size t ty e i z size i.bytes ht hi hz hsize rfl hzs hsz _ n xs how' a m cap news hl hc h1 h63 hbytes (Nat.le_refl _)
      rw [k1] at g1
      injection g1 with e1 e2
      subst e1
      rcases k2.2 with ⟨rfl, _⟩ | ⟨g, _, _, rfl, hg, _⟩
      · simp [Value.ownBlock] at hb
      · simp only [Value.ownBlock, Option.some.injEq] at hb
        subst hb; exact .inr hg
    · by_cases hroom : n + m ≤ cp
      · subst hsize
        have hfit : n * i.size + news.length ≤ cur.size := by rw [hl, hcs, ← Nat.add_mul]; exact Nat.mul_le_mul_right _ hroom
        have hr := run_append_room (P := P) w t ty e i ht hi g n cp cur hh a m cap news hl hc h1 hroom hfit
        rw [hr] at g1
        injection g1 with e1 e2
        subst e1
        exact .inl hb
      · subst hsize
        have holds : ∀ j u, xs[j]? = some u → w.cell? ((⟨g, 0, none⟩ : Addr).add j) = some u := how.cells (g := g) rfl
        have hb63 : ((n + m : Nat) : Int) ≤ 9223372036854775807 := by
          unfold maxLen at h63; omega
        have hr := run_append_grow (P := P) w t ty e i z ht hi hz ⟨g, 0, none⟩ n cp xs how.1 holds a m cap news hl hc (by omega) hb63 (growslice_fits (by omega) hbytes)
        rw [hr] at g1
        injection g1 with e1 e2
        subst e1
        simp only [Value.ownBlock, Option.some.injEq] at hb
        subst hb; exact .inr (Nat.le_refl _)
  rcases hu with ⟨rfl, p, cap, rfl, hp⟩ | ⟨a, cap, rfl, hc⟩
  · have hm : m = 0 := by
      rcases Nat.eq_zero_or_pos m with h | h
      · exact h
      · have := Nat.mul_pos h hsz; simp at hl; omega
    subst hm
    cases p with
    | none =>
      have := hp rfl
      subst this
      refine ⟨v, w, run_append_owned_none w 0 t ty e i size ht hi v n xs how, by simpa using how, ⟨rfl, rfl, rfl, Nat.le_refl _, fun _ _ _ => rfl⟩, fun b hb => .inl hb⟩
    | some a => exact main a cap (fun j x h => by simp at h)
  · exact main a cap hc

omit [Bad] in
/-- An append to what stands for a row of the frame's own. -/
theorem append_run2 {t ty e : TypeId} {i : TypeInfo} {z : Value} {size : Nat} (ht : P.underlying t = some (.slice e)) (hi : P.info? e = some i) (hz : i.zero = some z)
    (hsize : i.size = size) (hzs : z.cells.size = size) (hsz : 0 < size) {v0 v : Value} {n : Nat} {xs : List Value} (how : w.ownsRow 0 e size v0 n xs) (hv : SlOf v0 v)
    {u : Value} {m : Nat} {news : List Value} (hl : news.length = m * size) (h1 : ∀ u ∈ news, u.oneCell' = true)
    (hu : (news = [] ∧ ∃ p cap, u = .slice p 0 cap ∧ (p = none → cap = 0)) ∨ ∃ (a : Addr) (cap : Nat), u = .slice (some a) m cap ∧ ∀ j x, news[j]? = some x → w.cell? (a.add j) = some x)
    (h63 : n + m ≤ maxLen) (hbytes : (n + m) * i.bytes ≤ 140737488355328) :
    ∃ v' u' w', (Builtin.append_ #[t, t] ty #[v, u]).run P w = .ok u' w' ∧ SlOf v' u' ∧ w'.ownsRow 0 e size v' (n + m) (xs ++ news) ∧ w.grownBy w' v0.ownBlock ∧
      (∀ b, v'.ownBlock = some b → v0.ownBlock = some b ∨ w.heap.size ≤ b) := by
  have plain : v = v0 → ∃ v' u' w', (Builtin.append_ #[t, t] ty #[v, u]).run P w = .ok u' w' ∧ SlOf v' u' ∧ w'.ownsRow 0 e size v' (n + m) (xs ++ news) ∧ w.grownBy w' v0.ownBlock ∧
      (∀ b, v'.ownBlock = some b → v0.ownBlock = some b ∨ w.heap.size ≤ b) := by
    rintro rfl
    obtain ⟨v', w', k1, k2, k3, k4⟩ := append_run (P := P) (ty := ty) ht hi hz hsize hzs hsz how hl h1 hu h63 hbytes
    refine ⟨v', v', w', k1, .self ?_, k2, k3, k4⟩
    rcases k2.2 with ⟨rfl, _⟩ | ⟨g, cap, _, rfl, _⟩
    · exact ⟨_, _, _, rfl⟩
    · exact ⟨_, _, _, rfl⟩
  obtain ⟨_, hv | ⟨rfl, p, rfl⟩⟩ := hv
  · exact plain hv
  cases p with
  | none => exact plain rfl
  | some a0 =>
    obtain ⟨hxl, ⟨_, rfl⟩ | ⟨g, cap, cur, he, _⟩⟩ := how
    case inr => simp at he
    have hxs : xs = [] := List.eq_nil_of_length_eq_zero (by simpa using hxl)
    subst hxs
    by_cases hm : m = 0
    · subst hm
      have hnn : news = [] := List.eq_nil_of_length_eq_zero (by simpa using hl)
      subst hnn
      refine ⟨.slice none 0 0, .slice (some a0) 0 0, w, ?_, ⟨⟨_, _, _, rfl⟩, .inr ⟨rfl, _, rfl⟩⟩, by simpa using World.ownsRow_nil w 0 e size, ⟨rfl, rfl, rfl, Nat.le_refl _, fun _ _ _ => rfl⟩, fun b hb => .inl hb⟩
      rcases hu with ⟨_, p, cap, rfl, hp⟩ | ⟨a, cap, rfl, hc⟩
      · cases p with
        | none =>
          have := hp rfl
          subst this
          simp [Builtin.append_, run_underlying ht, sizeOf, typeInfo, hi, Builtin.lenOf, Builtin.firstCells, storeCells]
        | some a =>
          have hf := run_firstCells_some (P := P) w i.size 0 a 0 cap [] (by simp) (by simp)
          simp [Builtin.append_, run_underlying ht, sizeOf, typeInfo, hi, Builtin.lenOf, hf, storeCells]
      · have hf := run_firstCells_some (P := P) w i.size 0 a 0 cap [] (by simp) (by simp)
        simp [Builtin.append_, run_underlying ht, sizeOf, typeInfo, hi, Builtin.lenOf, hf, storeCells]
    · obtain ⟨a, cap, rfl, hc⟩ : ∃ (a : Addr) (cap : Nat), u = .slice (some a) m cap ∧ ∀ j x, news[j]? = some x → w.cell? (a.add j) = some x := by
        rcases hu with ⟨rfl, _⟩ | h
        · have := Nat.mul_pos (Nat.pos_of_ne_zero hm) hsz; simp at hl; omega
        · exact h
      obtain ⟨v', w', k1, k2, k3⟩ := run_append_arg_grows (P := P) w t ty e i z size i.bytes ht hi hz hsize rfl hzs hsz a0 0 0 [] (by simp) (by simp) a m cap news hl hc (by omega) h63 hbytes
      refine ⟨v', v', w', k1, .self ?_, ⟨by simpa using k2.1, ?_⟩, k3, fun b hb => .inr ?_⟩
      · rcases k2.2 with ⟨rfl, _⟩ | ⟨g, cap, _, rfl, _⟩
        · exact ⟨_, _, _, rfl⟩
        · exact ⟨_, _, _, rfl⟩
      · rcases k2.2 with h | ⟨g, cap, cur, h2, _, h3⟩
        · exact .inl h
        · exact .inr ⟨g, cap, cur, h2, Nat.zero_le _, h3⟩
      · rcases k2.2 with ⟨rfl, _⟩ | ⟨g, cap, _, rfl, hg, _⟩
        · simp [Value.ownBlock] at hb
        · simp only [Value.ownBlock, Option.some.injEq] at hb
          subst hb; exact hg

omit [Bad] in
theorem repL_one {S : Nat → Prop} {ds : List D} {vs : List Value} (h : RepL w S ds vs) : ∀ u ∈ vs, u.oneCell' = true := by
  intro u hu
  obtain ⟨i, hi⟩ := List.mem_iff_getElem?.mp hu
  have hlt : i < ds.length := by rw [h.1]; exact (List.getElem?_eq_some_iff.mp hi).1
  exact (h.2 i ds[i] u (by simp [hlt]) hi).one

theorem gives_append (hE : EnvOK E P) (hz : ∀ t i, look E.tys t = some i → i.zero.cells.size = i.size) (hR : Roots w A F) (hS : Slots w A t a.tmps) (c : Call) (ho : o.op = .call c) {x y : Operand} {tx ty : TypeId} (hc : c.callee = .builtin .append) (hx : c.args.toList = [x, y]) (hty : c.argTypes.toList = [tx, ty]) (h : opE E t F o k = some r) : GivesE P w A a o k r := by
  simp only [opE, ho, hc, hx, hty] at h
  have hargs : c.args = #[x, y] := by apply Array.ext'; simpa using hx
  have htys : c.argTypes = #[tx, ty] := by apply Array.ext'; simpa using hty
  split at h
  case h_2 => simp at h
  rename_i i j hi hj
  split at h
  case h_2 => simp at h
  rename_i e e' hd hd'
  split at h
  case h_2 => simp at h
  rename_i q hq hxy
  have : tx = ty := Nat.eq_of_beq_eq_true hxy
  subst this
  split at h
  case h_2 => simp at h
  rename_i s news hvx hnews
  split at h
  case h_2 => simp at h
  rename_i e2 es2 rows hroot
  split at h
  case h_2 => simp at h
  rename_i c1 c2 c3
  split at h
  case h_2 => simp at h
  rename_i c4
  split at h
  case h_2 => simp at h
  rename_i c5
  rw [forceAll_eq, forceF_eq] at h
  have : e = e2 := Nat.eq_of_beq_eq_true c1
  subst this
  have hq2 : es2 = q.size := Nat.eq_of_beq_eq_true c2
  subst hq2
  have hb0 : 0 < q.bytes := by have := c3; simp [Nat.blt_eq] at this; exact this
  have hby : (rows.length + news.length) * q.bytes ≤ 140737488355328 := Nat.ble_eq.mp c4
  have h63 : rows.length + news.length ≤ maxLen := by
    have := Nat.le_trans (Nat.le_mul_of_pos_right (rows.length + news.length) hb0) hby
    unfold maxLen; omega
  obtain ⟨_, _, h2, _⟩ := hE.ty _ _ hi
  rw [hd] at h2
  obtain ⟨tq, g1, g2, g3, g4, g5⟩ := hE.ty _ _ hq
  obtain ⟨ri, r1, r2⟩ := hR.rel s _ (root_get hroot)
  have hv := val_rel hS x
  rw [hvx] at hv
  generalize hex : a.eval x = ux at hv
  cases hv with
  | sl _ v0 e3 es hA _ hform =>
  rw [hA] at r1
  injection r1 with r1; injection r1 with r1
  subst r1
  obtain ⟨he3, hes3, hes, hl, xs, how, hrep⟩ := r2
  subst he3
  subst hes3
  obtain ⟨hkR, hkV⟩ := kill_all hR hroot
  have hnl := allLen_all c5
  obtain ⟨ys, hyl, hyu, hyrep⟩ : ∃ ys : List Value, ys.length = news.length * q.size ∧
      ((ys = [] ∧ ∃ p cap, a.eval y = .slice p 0 cap ∧ (p = none → cap = 0)) ∨ ∃ (ad : Addr) (cap : Nat), a.eval y = .slice (some ad) news.length cap ∧ ∀ j x, ys[j]? = some x → w.cell? (ad.add j) = some x) ∧
      RepL w (Free A) news.flatten ys := by
    rcases rows_cells hR (val_rel hS y) hnews with ⟨rfl, p, cap, hu, hp⟩ | ⟨b, o', es', cap, ys, hu, hes', hl', hm', hrep', hc'⟩
    · exact ⟨[], by simp, .inl ⟨rfl, p, cap, hu, hp⟩, by simpa using RepL.nil w (Free A)⟩
    · refine ⟨ys, ?_, .inr ⟨⟨b, o', none⟩, cap, hu, fun j x hj => by rw [add_at]; exact hc' j x hj⟩, hrep'⟩
      rw [← hrep'.1, flat_len news hnl]
  have hone : ∀ u ∈ ys, u.oneCell' = true := repL_one hyrep
  obtain ⟨v', u', w', k1, kS, k2, k3, k4⟩ := append_run2 (P := P) (ty := o.type) h2 g1 g5 g3 (by rw [hz _ _ hq]) hes how hform hyl hone hyu h63 (by rw [g4]; exact hby)
  have hrun : (execOp a.eval o).run P w = .ok (.value u') w' := by
    simp only [execOp, ho, Sem.run_bind, resolve, hc, hargs, htys]
    simp [hex, invoke, builtin, k1]
  have hvb : ∀ b, v'.ownBlock = some b → (RI.arr v0 e q.size).blk = some b ∨ w.heap.size ≤ b := fun b hb => k4 b hb
  have hlt' : ∀ b, v'.ownBlock = some b → b < w'.heap.size := by
    intro b hb
    rcases k2.2 with ⟨rfl, _⟩ | ⟨g, _, _, rfl, _, hh, _⟩
    · simp [Value.ownBlock] at hb
    · simp only [Value.ownBlock, Option.some.injEq] at hb
      subst hb
      exact (Array.getElem?_eq_some_iff.mp hh).1
  have hsame : ∀ b, b < w.heap.size → (RI.arr v0 e q.size).blk ≠ some b → w'.heap[b]? = w.heap[b]? := fun b hb hne => k3.block b hb (fun e => hne e.symm)
  have hfree : ∀ b, Free A b → b < w.heap.size → Free (A.set s none ++ [some (.arr v' e q.size)]) b := by
    refine fun b hf hb => ⟨fun ho => ?_, hf.2⟩
    rcases own_append ho with h1 | h1
    · exact hf.1 (own_drop h1)
    · rcases hvb b h1 with h3 | h3
      · exact hf.1 ⟨s, _, hA, h3⟩
      · omega
  have hwf : ∀ b, Free A b → b < w.heap.size → w'.heap[b]? = w.heap[b]? := fun b hf hb => hsame b hb (fun e => hf.1 ⟨s, _, hA, e⟩)
  have hkeep : ∀ (r' : Nat) (y : RI), A[r']? = some (some y) → r' ≠ s → (A.set s none ++ [some (RI.arr v' e q.size)])[r']? = some (some y) := fun r' y hy hne => get_append (get_drop hy hne)
  have hsub : ∀ {c : V} {u : Value}, RelV w A c u → RelV w' (A.set s none ++ [some (.arr v' e q.size)]) (subV (killS s) (killP s) .bp c) u := by
    intro c u hc
    refine sub_rel hwf hfree (fun r' v1 e' es' hA1 u1 hv1 => ?_) (fun r' i j g n cap es' e' hA1 => ?_) (fun r' j g hA1 => ?_) hc
    · unfold killS
      split
      · exact .dead _
      · rename_i hb
        exact .sl r' v1 e' es' (hkeep _ _ hA1 (fun e => by subst e; simp at hb)) u1 hv1
    · unfold killP
      split
      · exact .dead _
      · rename_i hb
        exact .ptr r' i j g n cap es' e' (hkeep _ _ hA1 (fun e => by subst e; simp at hb))
    · exact .bp r' j g (hkeep _ _ hA1 (fun e => by subst e; rw [hA] at hA1; simp at hA1))
  have hroot' : RootRel w' (A.set s none ++ [some (.arr v' e q.size)]) (.arr v' e q.size) (.arr e q.size (rows ++ news)) := by
    refine ⟨rfl, rfl, hes, fun row hrow => ?_, xs ++ ys, ?_, ?_⟩
    · rcases List.mem_append.mp hrow with h1 | h1
      · exact hl row h1
      · exact hnl row h1
    · rw [List.length_append]; exact k2
    · rw [List.flatten_append]; exact (hrep.append hyrep).mono hwf hfree
  refine ⟨_, u', _, _, A.set s none ++ [some (.arr v' e q.size)], w', h, .inl hrun, hR.renew (ri := .arr v' e q.size) hA hsame k3.size (fun b hb => ⟨hvb b hb, hlt' b hb⟩) hsub hroot', hS.sub hsub, ?_, ?_, ?_, ?_⟩
  · refine .sl _ v' e q.size ?_ _ kS
    have : F.length = (A.set s none).length := by simp [hR.len]
    rw [this]; simp
  · exact ⟨k3.os, k3.tape, k3.output, k3.size, fun b hb hf => hsame b hb (fun e => hf ⟨s, _, hA, e⟩)⟩
  · refine ⟨by simp, fun r' y hy => ?_, fun b ho => ?_⟩
    · rcases (Grows.drop A w s).old r' y hy with h1 | h1
      · exact .inl (get_append h1)
      · exact .inr (get_append h1)
    · rcases own_append ho with h1 | h1
      · exact .inl (own_drop h1)
      · rcases hvb b h1 with h3 | h3
        · exact .inl ⟨s, _, hA, h3⟩
        · exact .inr h3
  · intro r' hr'
    refine get_append ?_
    by_cases hne : r' = s
    · subst hne; rw [hA] at hr'; simp at hr'
    · rw [List.getElem?_set_ne (fun e => hne e.symm)]; exact hr'

end
end Go.Proofs.YtjphojijobhdiaaE

/- The engine, eighth part: stores, slice literals and nil slices; conditions: the tables are the program's own. -/
import Derived.Test.YtjnhclnnobejgaaEg
import Derived.Great.BuildSlice
import Derived.Laws.IdiomStrings
namespace Go.Proofs.YtjnhclnnobejgaaE
open Go.RowKit
set_option linter.unusedVariables false
variable [DW : Drw]
variable [Bad]
set_option linter.unusedSimpArgs false

section
variable {R : Type} {E : Env} {P : Program} {w : World} {A : List (Option RI)} {F : Fo} {t : List V} {a : Act} {o : Oper} {k : V → List V → Fo → Option R} {r : R}

/-- Cells that are to be data: a slice that was let go since is gone. -/
def RelW (w : World) (A : List (Option RI)) (c : V) (v : Value) : Prop := match c with
  | .d x => Rep w (Free A) x v
  | .sl s => RelV w A (.sl s) v ∨ A[s]? = some none
  | _ => True
omit DW in
theorem RelW.of {w : World} {A : List (Option RI)} {c : V} {v : Value} (h : RelV w A c v) : RelW w A c v := by
  cases c with
  | d x => cases h with
    | d _ _ h => exact h
  | sl s => exact .inl h
  | _ => trivial

omit DW in
theorem frzCells_sound {Q : Type} {q : Q} : ∀ (cs : List V) (vs : List Value) (t : List V) (F : Fo) (A : List (Option RI)) (k : List D → List V → Fo → Option Q), frzCells cs t F k = some q → Roots w A F → Slots w A t a.tmps →
    cs.length = vs.length → (∀ (i : Nat) (c : V) (v : Value), cs[i]? = some c → vs[i]? = some v → RelW w A c v) →
    ∃ ds t' F' A', k ds t' F' = some q ∧ Roots w A' F' ∧ Slots w A' t' a.tmps ∧ RepL w (Free A') ds vs ∧ Grows A A' w ∧ (∀ (r : Nat), A[r]? = some none → A'[r]? = some none) ∧ (∀ b, Own A' b → Own A b)
  | [], vs, t, F, A, k, h, hR, hS, hl, hc => by
    have : vs = [] := List.eq_nil_of_length_eq_zero hl.symm
    subst this
    exact ⟨[], t, F, A, h, hR, hS, RepL.nil _ _, .refl _ _, fun _ h => h, fun _ h => h⟩
  | c :: cs, [], t, F, A, k, h, hR, hS, hl, hc => by simp at hl
  | c :: cs, v :: vs, t, F, A, k, h, hR, hS, hl, hc => by
    have hl' : cs.length = vs.length := by simpa using hl
    have h0 := hc 0 c v rfl rfl
    have hc' : ∀ (i : Nat) (c : V) (v : Value), cs[i]? = some c → vs[i]? = some v → RelW w A c v := fun i c v h1 h2 => hc (i + 1) c v (by simpa using h1) (by simpa using h2)
    simp only [frzCells] at h
    split at h
    · rename_i x
      split at h
      case h_2 => simp at h
      obtain ⟨ds, t', F', A', h1, h2, h3, h4, h5, h6, h7⟩ := frzCells_sound cs vs t F A _ h hR hS hl' hc'
      refine ⟨x :: ds, t', F', A', h1, h2, h3, ?_, h5, h6, h7⟩
      have hx : Rep w (Free A') x v := h0.mono (fun _ _ _ => rfl) (fun b hb _ => ⟨fun ho => hb.1 (h7 b ho), hb.2⟩)
      refine ⟨by simp [h4.1], fun i y u g1 g2 => ?_⟩
      cases i with
      | zero => simp at g1 g2; subst g1; subst g2; exact hx
      | succ i => exact h4.2 i y u (by simpa using g1) (by simpa using g2)
    · rename_i s
      split at h
      case h_2 => simp at h
      rename_i e es rows hroot
      obtain ⟨v1, es1, g1, g2, g3, g4⟩ := frz_all hR hroot
      have hv1 : SlOf v1 v := by
        rcases h0 with h0 | hn
        · cases h0 with
          | sl _ _ e' es' hA _ hv => rw [g1] at hA; injection hA with hA; injection hA with hA; injection hA with hA; subst hA; exact hv
        · rw [g1] at hn; simp at hn
      have hc2 : ∀ (i : Nat) (c : V) (v : Value), cs[i]? = some c → vs[i]? = some v → RelW w (A.set s none) c v := by
        intro i c u h1 h2
        have h3 := hc' i c u h1 h2
        cases c with
        | d x => exact h3.mono (fun _ _ _ => rfl) (fun b hb _ => free_drop hb)
        | sl s' =>
          by_cases hss : s' = s
          · subst hss
            exact .inr (by rw [List.getElem?_set, if_pos rfl, if_pos (List.getElem?_eq_some_iff.mp g1).1])
          · rcases h3 with h3 | hn
            · cases h3 with
              | sl _ _ e' es' hA _ hv => exact .inl (.sl s' _ e' es' (get_drop hA hss) _ hv)
            · exact .inr (by rw [List.getElem?_set_ne (fun e => hss e.symm)]; exact hn)
        | _ => trivial
      obtain ⟨ds, t', F', A', h1, h2, h3, h4, h5, h6, h7⟩ := frzCells_sound cs vs _ _ _ _ h g3 (hS.sub g4) hl' hc2
      refine ⟨.arr rows :: ds, t', F', A', h1, h2, h3, ?_, (Grows.drop A w s).trans h5 (Nat.le_refl _) h6, fun r hr => h6 r ?_, fun b ho => own_drop (h7 b ho)⟩
      · refine ⟨by simp [h4.1], fun i y u k1 k2 => ?_⟩
        cases i with
        | zero => simp at k1 k2; subst k1; subst k2; exact (g2.slOf hv1).mono (fun _ _ _ => rfl) (fun b hb _ => ⟨fun ho => hb.1 (h7 b ho), hb.2⟩)
        | succ i => exact h4.2 i y u (by simpa using k1) (by simpa using k2)
      · by_cases hss : r = s
        · subst hss; rw [g1] at hr; simp at hr
        · rw [List.getElem?_set_ne (fun e => hss e.symm)]; exact hr
    · simp at h

omit DW in
theorem cells_weak {c : V} {u : Value} (h : RelV w A c u) (hd : c ≠ .dead) :
    (cellsV c).length = u.cells.toList.length ∧ ∀ (i : Nat) (c' : V) (u' : Value), (cellsV c)[i]? = some c' → u.cells.toList[i]? = some u' → RelW w A c' u' := by
  have one : ∀ {c : V} {u : Value}, RelV w A c u → cellsV c = [c] → u.cells = #[u] →
      (cellsV c).length = u.cells.toList.length ∧ ∀ (i : Nat) (c' : V) (u' : Value), (cellsV c)[i]? = some c' → u.cells.toList[i]? = some u' → RelW w A c' u' := by
    intro c u h h1 h2
    rw [h1, h2]
    refine ⟨rfl, fun i c' u' g1 g2 => ?_⟩
    cases i with
    | zero => simp at g1 g2; subst g1; subst g2; exact .of h
    | succ i => simp at g1
  have h0 := h
  cases h with
  | d x _ h =>
    refine one h0 rfl ?_
    have := h.one
    cases u <;> first | rfl | simp [Value.oneCell'] at this
  | agg cs vs hn h => exact ⟨by show cs.length = vs.toList.length; simpa using hn, fun i c' u' h1 h2 => .of (h i c' u' h1 (by have h3 : vs.toList[i]? = some u' := h2; simpa using h3))⟩
  | tup cs vs hn h => exact one h0 rfl rfl
  | bp r j g h => exact one h0 rfl rfl
  | ptr r i j g n cap es e h => exact one h0 rfl rfl
  | sl r v e es h u hv => obtain ⟨⟨p, n, c, rfl⟩, _⟩ := hv; exact one h0 rfl rfl
  | e0 p => exact one h0 rfl rfl
  | lst T cs vs g hg hf h1 hn h => exact one h0 rfl rfl
  | mp r g h => exact one h0 rfl rfl
  | rp rows i j b o es cap h hes => exact one h0 rfl rfl
  | clo f cs vs hn h => exact one h0 rfl rfl
  | tl r i g n cap es e h hi hc => exact one h0 rfl rfl
  | nsl r v T n vs h u hs => obtain ⟨⟨p, n, c, rfl⟩, _⟩ := hs; exact one h0 rfl rfl
  | nptr r i j g m cap T n vs h => exact one h0 rfl rfl
  | ns r i v T n vs u0 h hi hu u hs => obtain ⟨⟨p, n, c, rfl⟩, _⟩ := hs; exact one h0 rfl rfl
  | np r i k c v T n vs g o m cap h hi hu => exact one h0 rfl rfl
  | nt r i m' v T n vs p m cap h hi hu hm => exact one h0 rfl rfl
  | dead v => exact absurd rfl hd

/-! ### Stores -/
omit [Bad] in
omit DW in
theorem repL_take {S : Nat → Prop} {ds : List D} {vs : List Value} (h : RepL w S ds vs) (n : Nat) : RepL w S (ds.take n) (vs.take n) := by
  refine ⟨by simp [h.1], fun i c v h1 h2 => ?_⟩
  rw [List.getElem?_take] at h1 h2
  split at h1
  · rename_i hi; rw [if_pos hi] at h2; exact h.2 i c v h1 h2
  · simp at h1
omit [Bad] in
omit DW in
theorem repL_drop {S : Nat → Prop} {ds : List D} {vs : List Value} (h : RepL w S ds vs) (n : Nat) : RepL w S (ds.drop n) (vs.drop n) := by
  refine ⟨by simp [h.1], fun i c v h1 h2 => ?_⟩
  rw [List.getElem?_drop] at h1 h2
  exact h.2 _ c v h1 h2
omit DW in
theorem relL_append {cs ds : List V} {vs us : List Value} (h : RelL w A cs vs) (k : RelL w A ds us) : RelL w A (cs ++ ds) (vs ++ us) := by
  refine ⟨by rw [List.length_append, List.length_append, h.1, k.1], fun i x v h1 h2 => ?_⟩
  by_cases hi : i < cs.length
  · rw [List.getElem?_append_left hi] at h1
    rw [List.getElem?_append_left (by rw [← h.1]; exact hi)] at h2
    exact h.2 i x v h1 h2
  · rw [List.getElem?_append_right (by omega)] at h1
    rw [List.getElem?_append_right (by rw [← h.1]; omega), ← h.1] at h2
    exact k.2 _ x v h1 h2

omit [Bad] in
omit DW in
theorem flat_set {α : Type} {es : Nat} : ∀ (rows : List (List α)), (∀ row ∈ rows, row.length = es) → ∀ (i : Nat) (row row' : List α), rows[i]? = some row →
    (rows.set i row').flatten = rows.flatten.take (i * es) ++ row' ++ rows.flatten.drop (i * es + es) := by
  intro rows
  induction rows with
  | nil => intro _ i row row' h; simp at h
  | cons x rows ih =>
    intro hl i row row' h
    have hx : x.length = es := hl x (by simp)
    cases i with
    | zero => simp [← hx]
    | succ i =>
      have h' : rows[i]? = some row := by simpa using h
      have := ih (fun y hy => hl y (by simp [hy])) i row row' h'
      rw [List.set_cons_succ, List.flatten_cons, this, List.flatten_cons]
      have e1 : (i + 1) * es = x.length + i * es := by rw [hx, Nat.succ_mul, Nat.add_comm]
      rw [e1, List.take_length_add_append, Nat.add_assoc, List.drop_length_add_append]
      simp

omit [Bad] in
omit DW in
theorem piece_eq {α : Type} (l : List α) (b es j n : Nat) (ds : List α) (hj : j + n ≤ es) (hl : b + es ≤ l.length) :
    l.take b ++ (((l.drop b).take es).take j ++ ds ++ ((l.drop b).take es).drop (j + n)) ++ l.drop (b + es) = l.take (b + j) ++ ds ++ l.drop (b + j + n) := by
  have h1 : ((l.drop b).take es).take j = (l.drop b).take j := by rw [List.take_take]; congr 1; omega
  have h2 : ((l.drop b).take es).drop (j + n) ++ l.drop (b + es) = l.drop (b + j + n) := by
    rw [List.drop_take, List.drop_drop]
    have e : b + es = (b + (j + n)) + (es - (j + n)) := by omega
    have : l.drop (b + es) = (l.drop (b + (j + n))).drop (es - (j + n)) := by rw [List.drop_drop]; congr 1
    rw [this, List.take_append_drop, Nat.add_assoc]
  rw [h1, List.take_add]
  simp only [List.append_assoc]
  rw [h2]

omit [Bad] in
theorem store_run (hE : EnvOK E P) {ty : TypeId} {i : TI} (hi : look E.tys ty = some i) {u : Value} (hn : u.cells.size = i.size) (h1 : ∀ v ∈ u.cells.toList, v.oneCell' = true)
    {g off : Nat} {cur : Array Value} {e : TypeId} {fz : Nat × Nat} (hg : w.heap[g]? = some (.cells cur e fz)) (hm : Mk e cur fz) (hfit : off + i.size ≤ cur.size) :
    (Instr.storeAt ty (.pointer (some ⟨g, off, none⟩)) u).run P w = .ok () (w.setRow g (cur.toList.take off ++ u.cells.toList ++ cur.toList.drop (off + i.size)).toArray) := by
  obtain ⟨ti, g1, _, g3, _⟩ := hE.ty _ _ hi
  have hs := run_storeB P g off e fz u.cells.toList 0 cur w hg hm (by simpa [hn] using hfit) h1
  simp only [Nat.add_zero, Array.length_toList, hn] at hs
  simp only [Instr.storeAt, Instr.sureAddr, storeVar, Sem.run_bind, Sem.run_pure, Result.andThen_ok, sizeOf, typeInfo, run_program, g1, g3, hn, ne_eq, not_true_eq_false, if_false, hs]

omit [Bad] in
theorem setRow_step {A : List (Option RI)} {r : Nat} {ri : RI} (hA : A[r]? = some (some ri)) {g : Nat} (hg : ri.has g) (cs : Array Value) : Step A w (w.setRow g cs) :=
  ⟨fun _ => Nat.le_refl _, rfl, rfl, rfl, by simp [World.setRow], fun b _ hf => setRow_other w g b cs (fun e => hf ⟨r, ri, hA, by rw [e]; exact hg⟩)⟩

omit [Bad] in
omit DW in
theorem nst_slice {w : World} {S : Nat → Prop} {g m cap : Nat} {T : NT} {n : Nat} {vs : List Value} {rows : List (List D)} (h : NstRel w S (.slice (some ⟨g, 0, none⟩) m cap) T n vs rows) :
    ∃ cur fz, w.heap[g]? = some (.cells cur T.e fz) ∧ Mk T.e cur fz ∧ rows.length * T.es ≤ cur.size := by
  obtain ⟨xs, how, _⟩ := h.rep
  rcases how.2 with ⟨he, _⟩ | ⟨g', cap', cur, he, _, ⟨fz, hh, hmk⟩, hnc, hcm, hcs, htake⟩
  · simp at he
  simp only [Value.slice.injEq, Option.some.injEq, Addr.mk.injEq, and_true, true_and] at he
  obtain ⟨rfl, rfl, rfl⟩ := he
  exact ⟨cur, fz, hh, hmk, by rw [hcs]; exact Nat.mul_le_mul_right _ hnc⟩

theorem gives_storeN (hE : EnvOK E P) (hR : Roots w A F) (hS : Slots w A t a.tmps) {ty : TypeId} {x v : Operand} {i : TI} (hi : look E.tys ty = some i) (ho : o.op = .store ty x v) {s n j : Nat} (hx : val t x = .nptr s n j)
    (hlen : (cellsV (val t v)).length = i.size) (h : storeN i.size s n j (cellsV (val t v)) t F k = some r) : GivesE P w A a o k r := by
  have hvv := val_rel hS v
  have hvx := val_rel hS x
  rw [hx] at hvx
  unfold storeN at h
  split at h
  case h_2 => simp at h
  rename_i T m rows hroot
  split at h
  case h_2 => simp at h
  rename_i row hrow
  split at h
  case h_2 => simp at h
  rename_i c1 c2
  have hfit : j + i.size ≤ row.length := Nat.le_of_ble_eq_true c1
  obtain ⟨hcr, hone⟩ := cells_rel hvv c2
  have hsz : (a.eval v).cells.size = i.size := by
    have := hcr.1; simp at this; omega
  obtain ⟨v1, us1, hA0, hN⟩ := nst_at hR hroot
  generalize hex : a.eval x = ux at hvx
  cases hvx with
  | nptr _ _ _ g ml cap T' n' us hA =>
  rw [hA] at hA0
  injection hA0 with hA0; injection hA0 with hA0; injection hA0 with e1 e2 e3 e4
  subst e1; subst e2; subst e3; subst e4
  obtain ⟨cur, fz, hh, hmk, hcs⟩ := nst_slice hN
  have hnl : n < rows.length := (List.getElem?_eq_some_iff.mp hrow).1
  have hrl : row.length = T'.es := hN.len row (List.mem_of_getElem? hrow)
  have hm : (n + 1) * T'.es ≤ rows.length * T'.es := Nat.mul_le_mul_right _ hnl
  rw [Nat.succ_mul] at hm
  have hrun := store_run (P := P) hE hi hsz hone hh hmk (off := n * T'.es + j) (by omega)
  have hul : (a.eval v).cells.toList.length = i.size := by simpa using hsz
  have hAfree : ∀ b, Free A b → b < w.heap.size → (w.setRow g (cur.toList.take (n * T'.es + j) ++ (a.eval v).cells.toList ++ cur.toList.drop (n * T'.es + j + i.size)).toArray).heap[b]? = w.heap[b]? :=
    fun b hf _ => setRow_other w g b _ (fun e => hf.1 ⟨s, _, hA, by rw [e]; exact .inl rfl⟩)
  have hSg : ¬ Free A g := fun hf => hf.1 ⟨s, _, hA, .inl rfl⟩
  have hstep : Step A w (w.setRow g (cur.toList.take (n * T'.es + j) ++ (a.eval v).cells.toList ++ cur.toList.drop (n * T'.es + j + i.size)).toArray) := setRow_step hA (.inl rfl) _
  split at h
  · rename_i hin
    split at h
    case h_2 => simp at h
    rename_i ds hds
    have hrep := toDs_rep hds hcr
    have hdl : ds.length = i.size := by have := hrep.1; omega
    have hput := hN.put (n' := n') (vs' := us) (us := (a.eval v).cells.toList) (ds := ds) (i := n) (j := j) hh hmk hrow (by omega) (by omega) (fun q x y _ hx hy => hrep.2 q x y hx hy) (.inl ⟨rfl, rfl, fun q hq hc => by
      have h3 : Nat.ble j T'.c2 = true := Nat.ble_eq.mpr (by omega)
      have h4 : Nat.blt T'.c2 (j + i.size) = true := Nat.ble_eq.mpr (by omega)
      simp only [inN, h3, h4] at hin
      simp at hin⟩) hSg
    rw [hul, hdl] at hput
    refine ⟨_, undef, _, _, A, _, h, .inr ⟨by simp only [execOp, ho, hex, Sem.run_bind, hrun, Result.andThen_ok, Sem.run_pure], rfl⟩, ?_, hS.mono hAfree (fun _ h _ => h) (fun _ _ h => h), .dead _, hstep, .refl _ _, fun _ h => h⟩
    exact hR.write (root_get hroot) hA (.inl rfl) (by simp [World.setRow]) (fun b hb => setRow_other w g b _ hb) ⟨rfl, rfl, hput⟩
  · rename_i hin
    have hj1 : j ≤ T'.c2 ∧ T'.c2 < j + i.size := by
      unfold inN at hin
      split at hin
      · rename_i h3; exact ⟨Nat.le_of_ble_eq_true h3, Nat.le_of_ble_eq_true hin⟩
      · simp at hin
    split at h
    case h_2 => simp at h
    rename_i r2 hc
    split at h
    case h_2 => simp at h
    rename_i e2 es2 rws hroot2
    split at h
    case h_2 => simp at h
    rename_i ds hds
    split at h
    case h_2 => simp at h
    rename_i b1 b2 b3
    rw [forceAll_eq, forceF_eq] at h
    have hb1 : e2 = T'.e2 := Nat.eq_of_beq_eq_true b1
    have hb2 : es2 = T'.es2 := Nat.eq_of_beq_eq_true b2
    have hb3 : n = n' := Nat.eq_of_beq_eq_true b3
    subst hb3
    have hdl : ds.length = i.size := by
      have := congrArg List.length (toDs_some hds)
      simp at this; omega
    obtain ⟨uc, huc⟩ : ∃ uc, (a.eval v).cells.toList[T'.c2 - j]? = some uc := ⟨_, List.getElem?_eq_getElem (by omega)⟩
    obtain ⟨v2, hA2, hs2, hown, h02⟩ := own_of_root hR hroot2 (hcr.2 _ _ _ hc huc)
    have hne : s ≠ r2 := fun e => by subst e; rw [hA] at hA2; simp at hA2
    have hdis : ∀ b, v2.ownBlock = some b → b ≠ g ∧ ∀ (i' : Nat) (u' : Value), i' < n → us[i']? = some u' → u'.ownBlock ≠ some b := by
      intro b hb
      refine ⟨fun e => hne (hR.inj s r2 _ _ b hA hA2 (.inl (by rw [e]; rfl)) hb), fun i' u' hi' hu' hbu => hne (hR.inj s r2 _ _ b hA hA2 (.inr ⟨i', u', hi', hu', hbu⟩) hb)⟩
    have hdsp : ds[T'.c2 - j]? = some (.arr rws) := by
      have h1 := toDs_some hds
      have h2 : (List.map V.d ds)[T'.c2 - j]? = some (.d (.arr rws)) := by
        rw [← h1, List.getElem?_set, if_pos rfl, if_pos (by omega)]
      rw [List.getElem?_map, Option.map_eq_some_iff] at h2
      obtain ⟨x, hx, he⟩ := h2
      injection he with he
      rw [hx, he]
    have hput := hN.put (n' := n + 1) (vs' := us.set n v2) (us := (a.eval v).cells.toList) (ds := ds) (i := n) (j := j) hh hmk hrow (by omega) (by omega) (fun q x y hq hx hy => by
      have h1 := toDs_some hds
      have h2 : (List.map V.d ds)[q]? = some (.d x) := by rw [List.getElem?_map, hx]; rfl
      rw [← h1, List.getElem?_set_ne (fun e => hq (by omega))] at h2
      cases hcr.2 q _ y h2 hy with
      | d _ _ h => exact h) (.inr ⟨Nat.le_refl _, by omega, v2, uc, rws, T'.c2 - j, by omega, hdsp, huc, hs2, rfl, by rw [← hb1, ← hb2]; exact hown, hdis⟩) hSg
    rw [hul, hdl] at hput
    have hcov : ∀ b, (RI.nst (.slice (some ⟨g, 0, none⟩) ml cap) T' (n + 1) (us.set n v2)).has b → (RI.nst (.slice (some ⟨g, 0, none⟩) ml cap) T' n us).has b ∨ (RI.arr v2 e2 es2).has b := by
      rintro b (hb | ⟨i', u', h1, h2, h3⟩)
      · exact .inl (.inl hb)
      · by_cases hi' : i' = n
        · subst hi'
          rw [List.getElem?_set, if_pos rfl] at h2
          split at h2
          · injection h2 with h2; subst h2; exact .inr h3
          · simp at h2
        · rw [List.getElem?_set_ne (fun e => hi' e.symm)] at h2
          exact .inl (.inr ⟨i', u', by omega, h2, h3⟩)
    have hlt : ∀ b, (RI.nst (.slice (some ⟨g, 0, none⟩) ml cap) T' (n + 1) (us.set n v2)).has b → b < w.heap.size := fun b hb => (hcov b hb).elim (fun h => hR.lt b ⟨s, _, hA, h⟩) (fun h => hR.lt b ⟨r2, _, hA2, h⟩)
    have hsub0 : ∀ b, Free A b → b < w.heap.size → Free ((A.set s none).set r2 none ++ [some (RI.nst (.slice (some ⟨g, 0, none⟩) ml cap) T' (n + 1) (us.set n v2))]) b := by
      refine fun b hf _ => ⟨fun ho => ?_, hf.2⟩
      rcases own_append ho with h1 | h1
      · exact hf.1 (own_drop (own_drop h1))
      · exact (hcov b h1).elim (fun h => hf.1 ⟨s, _, hA, h⟩) (fun h => hf.1 ⟨r2, _, hA2, h⟩)
    have hkeep : ∀ (r' : Nat) (y : RI), A[r']? = some (some y) → r' ≠ s → r' ≠ r2 → ((A.set s none).set r2 none ++ [some (RI.nst (.slice (some ⟨g, 0, none⟩) ml cap) T' (n + 1) (us.set n v2))])[r']? = some (some y) :=
      fun r' y hy h1 h2 => get_append (get_stay hy h1 h2)
    have hnew : ((A.set s none).set r2 none ++ [some (RI.nst (.slice (some ⟨g, 0, none⟩) ml cap) T' (n + 1) (us.set n v2))])[F.length]? = some (some (RI.nst (.slice (some ⟨g, 0, none⟩) ml cap) T' (n + 1) (us.set n v2))) := by
      have : F.length = ((A.set s none).set r2 none).length := by simp [hR.len]
      rw [this]; simp
    have hsub : ∀ {c : V} {u : Value}, RelV w A c u → RelV (w.setRow g (cur.toList.take (n * T'.es + j) ++ (a.eval v).cells.toList ++ cur.toList.drop (n * T'.es + j + i.size)).toArray)
        ((A.set s none).set r2 none ++ [some (RI.nst (.slice (some ⟨g, 0, none⟩) ml cap) T' (n + 1) (us.set n v2))]) (subV (mrgS s r2 F.length) (killP r2) .bp c) u := by
      intro c u hc
      refine sub_rel hAfree hsub0 (fun r' v' e' es' hA1 u' hv' => ?_) (fun r' i' j' g' n' cap' es' e' hA1 => ?_) (fun r' j' g' hA1 => ?_) (fun r' v' T1 n1 vs1 hA1 => ?_) hc
      · have h1 : r' ≠ s := fun e => by subst e; rw [hA] at hA1; simp at hA1
        unfold mrgS
        split
        · rename_i hb; exact absurd (Nat.eq_of_beq_eq_true hb).symm h1
        · split
          · exact .dead _
          · rename_i hb; exact .sl r' v' e' es' (hkeep _ _ hA1 h1 (fun e => by subst e; simp at hb)) u' hv'
      · have h1 : r' ≠ s := fun e => by subst e; rw [hA] at hA1; simp at hA1
        unfold killP
        split
        · exact .dead _
        · rename_i hb; exact .ptr r' i' j' g' n' cap' es' e' (hkeep _ _ hA1 h1 (fun e => by subst e; simp at hb))
      · exact .bp r' j' g' (hkeep _ _ hA1 (fun e => by subst e; rw [hA] at hA1; simp at hA1) (fun e => by subst e; rw [hA2] at hA1; simp at hA1))
      · have h2 : r' ≠ r2 := fun e => by subst e; rw [hA2] at hA1; simp at hA1
        unfold mrgS
        split
        · rename_i hb
          have := Nat.eq_of_beq_eq_true hb
          subst this
          rw [hA] at hA1
          injection hA1 with hA1; injection hA1 with hA1; injection hA1 with e1 e2 e3 e4
          subst e1; subst e2; subst e3; subst e4
          refine ⟨n + 1, us.set n v2, hnew, fun i' u' h3 h4 => ⟨by omega, ?_⟩⟩
          rw [List.getElem?_set_ne (by omega)]; exact h4
        · rename_i hb1
          split
          · trivial
          · exact subN_of (hkeep _ _ hA1 (fun e => by subst e; simp at hb1) h2)
    have hroot' : RootRel (w.setRow g (cur.toList.take (n * T'.es + j) ++ (a.eval v).cells.toList ++ cur.toList.drop (n * T'.es + j + i.size)).toArray)
        ((A.set s none).set r2 none ++ [some (RI.nst (.slice (some ⟨g, 0, none⟩) ml cap) T' (n + 1) (us.set n v2))]) (RI.nst (.slice (some ⟨g, 0, none⟩) ml cap) T' (n + 1) (us.set n v2))
        (.nst T' (n + 1) (rows.set n (row.take j ++ ds ++ row.drop (j + i.size)))) := by
      refine ⟨rfl, rfl, hput.mono (fun _ _ _ => rfl) (fun b hf hb => hsub0 b hf (by simpa [World.setRow] using hb)) (fun _ _ => rfl)⟩
    refine ⟨_, undef, _, _, (A.set s none).set r2 none ++ [some (RI.nst (.slice (some ⟨g, 0, none⟩) ml cap) T' (n + 1) (us.set n v2))], _, h, .inr ⟨by simp only [execOp, ho, hex, Sem.run_bind, hrun, Result.andThen_ok, Sem.run_pure], rfl⟩, ?_, hS.sub hsub, .dead _, hstep, ⟨by simp, fun r' y hy => ?_, fun b hb => ?_⟩, fun r' hr' => ?_⟩
    · exact hR.merge hA hA2 (fun b hb h1 _ => setRow_other w g b _ (fun e => h1 (.inl (by rw [e]; rfl)))) (by simp [World.setRow]) (fun b hb => ⟨(hcov b hb).elim .inl (fun h => .inr (.inl h)), by simpa [World.setRow] using hlt b hb⟩) hsub hroot'
    · by_cases h1 : r' = s
      · subst h1
        refine .inr (get_append ?_)
        rw [List.getElem?_set_ne (fun e => hne e.symm), List.getElem?_set, if_pos rfl, if_pos (List.getElem?_eq_some_iff.mp hy).1]
      · by_cases h2 : r' = r2
        · subst h2
          refine .inr (get_append ?_)
          rw [List.getElem?_set, if_pos rfl, if_pos (by simpa using (List.getElem?_eq_some_iff.mp hy).1)]
        · exact .inl (hkeep _ _ hy h1 h2)
    · rcases own_append hb with h1 | h1
      · exact .inl (own_drop (own_drop h1))
      · exact .inl ((hcov b h1).elim (fun h => ⟨s, _, hA, h⟩) (fun h => ⟨r2, _, hA2, h⟩))
    · refine get_append ?_
      have h1 : r' ≠ s := fun e => by subst e; rw [hA] at hr'; simp at hr'
      have h2 : r' ≠ r2 := fun e => by subst e; rw [hA2] at hr'; simp at hr'
      rw [List.getElem?_set_ne (fun e => h2 e.symm), List.getElem?_set_ne (fun e => h1 e.symm)]; exact hr'

theorem gives_storeNp (hE : EnvOK E P) (hR : Roots w A F) (hS : Slots w A t a.tmps) {ty : TypeId} {x v : Operand} {i : TI} (hi : look E.tys ty = some i) (ho : o.op = .store ty x v) {s n q c : Nat} (hx : val t x = .np s n q c)
    (hlen : (cellsV (val t v)).length = i.size) (h : storeNp i.size s n q c (cellsV (val t v)) t F k = some r) : GivesE P w A a o k r := by
  have hvv := val_rel hS v
  have hvx := val_rel hS x
  rw [hx] at hvx
  unfold storeNp at h
  split at h
  case h_2 => simp at h
  rename_i T m rows hroot
  split at h
  case h_2 => simp at h
  rename_i row hrow
  split at h
  case h_2 => simp at h
  rename_i rws hc1
  split at h
  case h_2 => simp at h
  rename_i ds0 hq
  split at h
  case h_2 => simp at h
  rename_i ds c1 c2 hds
  have hfit : c + i.size ≤ ds0.length := Nat.le_of_ble_eq_true c1
  obtain ⟨hcr, hone⟩ := cells_rel hvv c2
  have hsz : (a.eval v).cells.size = i.size := by
    have := hcr.1; simp at this; omega
  have hrep := toDs_rep hds hcr
  have hdl : ds.length = i.size := by have := hrep.1; simp at this; omega
  obtain ⟨v1, us1, hA0, hN⟩ := nst_at hR hroot
  generalize hex : a.eval x = ux at hvx
  cases hvx with
  | np _ _ _ _ v0 T' n' us g o' ml cap hA hin hu =>
  obtain ⟨_, h02, hown⟩ := ns_own hR hA hin hu hroot hrow hc1
  rw [hA] at hA0
  injection hA0 with hA0; injection hA0 with hA0; injection hA0 with e1 e2 e3 e4
  subst e1; subst e2; subst e3; subst e4
  obtain ⟨hl, ys, how, hry⟩ := hown
  rcases how.2 with ⟨he, _⟩ | ⟨g', cap', cur, he, _, ⟨fz, hh, hmk⟩, hnc, hcm, hcs, htake⟩
  · simp at he
  simp only [Value.slice.injEq, Option.some.injEq, Addr.mk.injEq, and_true, true_and] at he
  obtain ⟨⟨rfl, rfl⟩, rfl, rfl⟩ := he
  have hql : q < rws.length := (List.getElem?_eq_some_iff.mp hq).1
  have hrl : ds0.length = T'.es2 := hl ds0 (List.mem_of_getElem? hq)
  have hm : (q + 1) * T'.es2 ≤ rws.length * T'.es2 := Nat.mul_le_mul_right _ hql
  rw [Nat.succ_mul] at hm
  have hm2 : rws.length * T'.es2 ≤ cap * T'.es2 := Nat.mul_le_mul_right _ hnc
  have hrun := store_run (P := P) hE hi hsz hone hh hmk (off := q * T'.es2 + c) (by omega)
  have hgh : (RI.nst v0 T' n' us).has g := .inr ⟨n, _, hin, hu, rfl⟩
  have hAfree : ∀ b, Free A b → b < w.heap.size → (w.setRow g (cur.toList.take (q * T'.es2 + c) ++ (a.eval v).cells.toList ++ cur.toList.drop (q * T'.es2 + c + i.size)).toArray).heap[b]? = w.heap[b]? :=
    fun b hf _ => setRow_other w g b _ (fun e => hf.1 ⟨s, _, hA, by rw [e]; exact hgh⟩)
  have hset : (rws.set q (ds0.take c ++ ds ++ ds0.drop (c + i.size))).flatten = rws.flatten.take (q * T'.es2 + c) ++ ds ++ rws.flatten.drop (q * T'.es2 + c + i.size) := by
    rw [flat_set rws hl q ds0 _ hq]
    have hrow' : ds0 = (rws.flatten.drop (q * T'.es2)).take T'.es2 := by
      apply List.ext_getElem?
      intro l
      rw [List.getElem?_take]
      split
      · rename_i hle; rw [List.getElem?_drop, flat_get rws hl q l ds0 hq hle]
      · rw [List.getElem?_eq_none (by omega)]
    rw [hrow']
    exact piece_eq rws.flatten (q * T'.es2) T'.es2 c i.size ds (by omega) (by rw [flat_len rws hl]; omega)
  have hnown : NOwn (w.setRow g (cur.toList.take (q * T'.es2 + c) ++ (a.eval v).cells.toList ++ cur.toList.drop (q * T'.es2 + c + i.size)).toArray) (Free A) T'.e2 T'.es2 (rws.set q (ds0.take c ++ ds ++ ds0.drop (c + i.size))) (.slice (some ⟨g, 0, none⟩) rws.length cap) := by
    refine ⟨fun row' hrow' => ?_, ys.take (q * T'.es2 + c) ++ (a.eval v).cells.toList ++ ys.drop (q * T'.es2 + c + i.size), ?_, ?_⟩
    · rcases List.mem_or_eq_of_mem_set hrow' with h1 | h1
      · exact hl row' h1
      · rw [h1]; simp [hdl]; omega
    · have hxl : ys.length = rws.length * T'.es2 := how.1
      rw [List.length_set]
      refine ⟨by simp [hsz, hxl]; omega, .inr ⟨g, cap, _, rfl, Nat.zero_le _, ⟨fz, setRow_heap w g cur _ T'.e2 _ hh, hmk.of (by simp [hsz, hcs]; omega)⟩, hnc, hcm, by simp [hsz, hcs]; omega, ?_⟩⟩
      have hx1 : ys.take (q * T'.es2 + c) = cur.toList.take (q * T'.es2 + c) := by rw [← htake, List.take_take]; congr 1; omega
      have hx2 : ys.drop (q * T'.es2 + c + i.size) = (cur.toList.drop (q * T'.es2 + c + i.size)).take (rws.length * T'.es2 - (q * T'.es2 + c + i.size)) := by rw [← htake, List.drop_take]
      have hll : (cur.toList.take (q * T'.es2 + c) ++ (a.eval v).cells.toList).length = q * T'.es2 + c + i.size := by simp [hsz, hcs]; omega
      rw [List.toList_toArray, hx1, hx2, List.take_append, List.take_of_length_le (by rw [hll]; omega), hll]
    · rw [hset]
      exact (((repL_take hry _).append hrep).append (repL_drop hry _)).mono hAfree (fun _ h _ => h)
  have hin' := hN.inner (rws' := rws.set q (ds0.take c ++ ds ++ ds0.drop (c + i.size))) (cs := #[]) hin hrow hc1 hu (fun b hb => setRow_other w g b _ hb) hnown (fun hf => hf.1 ⟨s, _, hA, hgh⟩)
  refine ⟨_, undef, _, _, A, _, h, .inr ⟨by rw [Nat.zero_add] at hex; simp only [execOp, ho, hex, Sem.run_bind, hrun, Result.andThen_ok, Sem.run_pure], rfl⟩, ?_, hS.mono hAfree (fun _ h _ => h) (fun _ _ h => h), .dead _, setRow_step hA hgh _, .refl _ _, fun _ h => h⟩
  exact hR.write (root_get hroot) hA hgh (by simp [World.setRow]) (fun b hb => setRow_other w g b _ hb) ⟨rfl, rfl, hin'⟩

theorem gives_store (hE : EnvOK E P) (hR : Roots w A F) (hS : Slots w A t a.tmps) (ty : TypeId) (x v : Operand) (ho : o.op = .store ty x v) (h : opE E t F o k = some r) : GivesE P w A a o k r := by
  simp only [opE, ho] at h
  split at h
  case h_2 => simp at h
  rename_i i hi
  split at h
  case h_2 => simp at h
  rename_i hlen
  have hlen' : (cellsV (val t v)).length = i.size := Nat.eq_of_beq_eq_true hlen
  have hvv := val_rel hS v
  have hvx := val_rel hS x
  split at h
  · rename_i s j hx
    rw [hx] at hvx
    split at h
    case h_2 => simp at h
    rename_i cs hroot
    split at h
    case h_2 => simp at h
    rename_i c1 c2
    have hfit : j + i.size ≤ cs.length := Nat.le_of_ble_eq_true c2
    obtain ⟨hcr, hone⟩ := cells_rel hvv c1
    have hsz : (a.eval v).cells.size = i.size := by
      have := hcr.1; simp at this; omega
    obtain ⟨ri, r1, r2⟩ := hR.rel s _ (root_get hroot)
    generalize hex : a.eval x = ux at hvx
    cases hvx with
    | bp _ _ g hA =>
    rw [hA] at r1
    injection r1 with r1; injection r1 with r1
    subst r1
    obtain ⟨cells, e, hh, hrel⟩ := r2
    have hcl : cells.size = cs.length := by have := hrel.1; simp at this; omega
    have hrun := store_run (P := P) hE hi hsz hone hh (.z _ _) (off := j) (by omega)
    have hmono : ∀ b, Free A b → b < w.heap.size → (w.setRow g (cells.toList.take j ++ (a.eval v).cells.toList ++ cells.toList.drop (j + i.size)).toArray).heap[b]? = w.heap[b]? :=
      fun b hf _ => setRow_other w g b _ (fun e => hf.1 ⟨s, _, hA, by rw [e]; rfl⟩)
    refine ⟨_, undef, _, _, A, _, h, .inr ⟨by simp only [execOp, ho, hex, Sem.run_bind, hrun, Result.andThen_ok, Sem.run_pure], rfl⟩, ?_, hS.mono hmono (fun _ h _ => h) (fun _ _ h => h), .dead _, setRow_step hA rfl _, .refl _ _, fun _ h => h⟩
    refine hR.write (root_get hroot) hA rfl (by simp [World.setRow]) (fun b hb => setRow_other w g b _ hb) ⟨_, e, setRow_heap w g cells _ e _ hh, ?_⟩
    simp only [List.toList_toArray]
    exact ((relL_append (relL_append (hrel.take j) hcr) (hrel.drop (j + i.size))).mono hmono (fun _ h _ => h) (fun _ _ h => h))
  · rename_i s n j hx
    rw [hx] at hvx
    have hcv := cells_weak hvv (fun e => by rw [e] at h; simp [cellsV, frzCells] at h)
    obtain ⟨ds, t', F', A', h, hR', hS', hrep, hgr, hnone, hown⟩ := frzCells_sound _ _ _ _ A _ h hR hS hcv.1 hcv.2
    split at h
    case h_2 => simp at h
    rename_i e es rows hroot
    split at h
    case h_2 => simp at h
    rename_i row hrow
    split at h
    case h_2 => simp at h
    rename_i c1
    have hfit : j + i.size ≤ row.length := Nat.le_of_ble_eq_true c1
    obtain ⟨ri, r1, r2⟩ := hR'.rel s _ (root_get hroot)
    generalize hex : a.eval x = ux at hvx
    cases hvx with
    | ptr _ _ _ g m cap es' e' hA =>
    have hA' : A'[s]? = some (some (.arr (.slice (some ⟨g, 0, none⟩) m cap) e' es')) := by
      rcases hgr.old s _ hA with h1 | h1
      · exact h1
      · rw [h1] at r1; simp at r1
    rw [hA'] at r1
    injection r1 with r1; injection r1 with r1
    subst r1
    obtain ⟨rfl, rfl, hes, hl, xs, how, hrx⟩ := r2
    rcases how.2 with ⟨he, _⟩ | ⟨g', cap', cur, he, _, ⟨fz, hh, hmk⟩, hnc, hcm, hcs, htake⟩
    · simp at he
    simp only [Value.slice.injEq, Option.some.injEq, Addr.mk.injEq, and_true, true_and] at he
    obtain ⟨rfl, rfl, rfl⟩ := he
    have hrl : row.length = es := hl row (List.mem_of_getElem? hrow)
    have hnl : n < rows.length := (List.getElem?_eq_some_iff.mp hrow).1
    have hm : (n + 1) * es ≤ rows.length * es := Nat.mul_le_mul_right _ hnl
    rw [Nat.succ_mul] at hm
    have hm2 : rows.length * es ≤ cap * es := Nat.mul_le_mul_right _ hnc
    have hsz : (a.eval v).cells.size = i.size := by have := hcv.1; simp at this; omega
    have hdl : ds.length = i.size := by have := hrep.1; simp at this; omega
    have hone : ∀ u ∈ (a.eval v).cells.toList, u.oneCell' = true := repL_one hrep
    have hrun := store_run (P := P) hE hi hsz hone hh hmk (off := n * es + j) (by omega)
    have hAfree : ∀ b, Free A' b → b < w.heap.size → (w.setRow g (cur.toList.take (n * es + j) ++ (a.eval v).cells.toList ++ cur.toList.drop (n * es + j + i.size)).toArray).heap[b]? = w.heap[b]? :=
      fun b hf _ => setRow_other w g b _ (fun e => hf.1 ⟨s, _, hA', by rw [e]; rfl⟩)
    refine ⟨_, undef, _, _, A', _, h, .inr ⟨by simp only [execOp, ho, hex, Sem.run_bind, hrun, Result.andThen_ok, Sem.run_pure], rfl⟩, ?_, hS'.mono hAfree (fun _ h _ => h) (fun _ _ h => h), .dead _, ?_, hgr, hnone⟩
    · refine hR'.write (root_get hroot) hA' rfl (by simp [World.setRow]) (fun b hb => setRow_other w g b _ hb) ?_
      have hset : (rows.set n (row.take j ++ ds ++ row.drop (j + i.size))).flatten = rows.flatten.take (n * es + j) ++ ds ++ rows.flatten.drop (n * es + j + i.size) := by
        rw [flat_set rows hl n row _ hrow]
        have hrow' : row = (rows.flatten.drop (n * es)).take es := by
          apply List.ext_getElem?
          intro l
          rw [List.getElem?_take]
          split
          · rename_i hle; rw [List.getElem?_drop, flat_get rows hl n l row hrow hle]
          · rw [List.getElem?_eq_none (by omega)]
        rw [hrow']
        exact piece_eq rows.flatten (n * es) es j i.size ds (by omega) (by rw [flat_len rows hl]; omega)
      refine ⟨rfl, rfl, hes, fun row' hrow' => ?_, xs.take (n * es + j) ++ (a.eval v).cells.toList ++ xs.drop (n * es + j + i.size), ?_, ?_⟩
      · rcases List.mem_or_eq_of_mem_set hrow' with h1 | h1
        · exact hl row' h1
        · rw [h1]; simp [hdl]; omega
      · have hxl : xs.length = rows.length * es := how.1
        rw [List.length_set]
        refine ⟨by simp [hsz, hxl]; omega, .inr ⟨g, cap, _, rfl, Nat.zero_le _, ⟨fz, setRow_heap w g cur _ e _ hh, hmk.of (by simp [hsz, hcs]; omega)⟩, hnc, hcm, by simp [hsz, hcs]; omega, ?_⟩⟩
        have hx1 : xs.take (n * es + j) = cur.toList.take (n * es + j) := by rw [← htake, List.take_take]; congr 1; omega
        have hx2 : xs.drop (n * es + j + i.size) = (cur.toList.drop (n * es + j + i.size)).take (rows.length * es - (n * es + j + i.size)) := by rw [← htake, List.drop_take]
        have hll : (cur.toList.take (n * es + j) ++ (a.eval v).cells.toList).length = n * es + j + i.size := by simp [hsz, hcs]; omega
        rw [List.toList_toArray, hx1, hx2, List.take_append, List.take_of_length_le (by rw [hll]; omega), hll]
      · rw [hset]
        exact (((repL_take hrx _).append hrep).append (repL_drop hrx _)).mono hAfree (fun _ h _ => h)
    · exact ⟨fun _ => Nat.le_refl _, rfl, rfl, rfl, by simp [World.setRow], fun b _ hf => setRow_other w g b _ (fun e => hf ⟨s, _, hA, by rw [e]; rfl⟩)⟩
  · rename_i hx; exact gives_storeN hE hR hS hi ho hx hlen' h
  · rename_i hx; exact gives_storeNp hE hR hS hi ho hx hlen' h
  · simp at h

/-! ### Slice literals and nil slices -/
omit [Bad] in
omit DW in
theorem fold_set (off : Nat) : ∀ (l : List Value) (k : Nat) (cells : Array Value) (X M Y : List Value), cells.toList = X ++ M ++ Y → X.length = off + k → M.length = l.length →
    ((l.zipIdx k).foldl (fun (cs : Array Value) (p : Value × Nat) => cs.setIfInBounds (off + p.2) p.1) cells).toList = X ++ l ++ Y
  | [], k, cells, X, M, Y, h, hx, hm => by
    have : M = [] := List.eq_nil_of_length_eq_zero (by simpa using hm)
    subst this
    simpa using h
  | c :: l, k, cells, X, [], Y, h, hx, hm => by simp at hm
  | c :: l, k, cells, X, m :: M, Y, h, hx, hm => by
    rw [List.zipIdx_cons, List.foldl_cons]
    have := fold_set off l (k + 1) (cells.setIfInBounds (off + k) c) (X ++ [c]) M Y (by
      rw [Array.toList_setIfInBounds, h, ← hx]
      simp) (by simp [hx]; omega) (by simpa using hm)
    rw [this]; simp

omit [Bad] in
omit DW in
theorem fill_whole (size : Nat) : ∀ (ps : List (Nat × Value)) (n : Nat) (pre mid : List Value), pre.length = n * size → mid.length = ps.length * size →
    (∀ (i : Nat) (p : Nat × Value), ps[i]? = some p → p.1 = n + i ∧ p.2.cells.size = size) →
    Instr.fill (fun i => some (i * size, size)) (pre ++ mid).toArray ps = some (pre ++ (ps.map fun p => p.2.cells.toList).flatten).toArray
  | [], n, pre, mid, h1, h2, h3 => by
    have : mid = [] := List.eq_nil_of_length_eq_zero (by simpa using h2)
    subst this
    simp [Instr.fill]
  | (i, v) :: ps, n, pre, mid, h1, h2, h3 => by
    obtain ⟨e1, e2⟩ := h3 0 (i, v) rfl
    simp only [Nat.add_zero] at e1 e2
    subst e1
    have hm : size ≤ mid.length := by rw [h2, List.length_cons, Nat.succ_mul]; omega
    have hf := fold_set (i * size) v.cells.toList 0 (pre ++ mid).toArray pre (mid.take size) (mid.drop size) (by simp) (by simpa using h1) (by simp [e2, hm])
    have hf' : v.cells.zipIdx.foldl (fun (cs : Array Value) (p : Value × Nat) => cs.setIfInBounds (i * size + p.2) p.1) (pre ++ mid).toArray = ((pre ++ v.cells.toList) ++ mid.drop size).toArray := by
      apply Array.ext'
      rw [← hf, ← Array.foldl_toList, Array.toList_zipIdx]
    unfold Instr.fill
    simp only
    rw [if_neg (by simp [e2, h1]; omega)]
    have hf2 : v.cells.zipIdx.foldl (fun cs (x : Value × Nat) => match x with | (c, j) => cs.setIfInBounds (i * size + j) c) (pre ++ mid).toArray = ((pre ++ v.cells.toList) ++ mid.drop size).toArray := by
      rw [← hf']
    rw [hf2, fill_whole size ps (i + 1) (pre ++ v.cells.toList) (mid.drop size) (by simp [h1, e2, Nat.succ_mul]) (by simp [h2, Nat.succ_mul]) (fun j p hj => by
      have := h3 (j + 1) p (by simpa using hj)
      exact ⟨by omega, this.2⟩)]
    simp

omit DW in
theorem frzParts_sound {Q : Type} {q : Q} (size : Nat) : ∀ (ps : List (Nat × Operand)) (n : Nat) (t : List V) (F : Fo) (A : List (Option RI)) (k : List (List D) → List V → Fo → Option Q), opE.frzParts size n ps t F k = some q → Roots w A F → Slots w A t a.tmps →
    ∃ rows t' F' A', k rows t' F' = some q ∧ Roots w A' F' ∧ Slots w A' t' a.tmps ∧ (∀ row ∈ rows, row.length = size) ∧ rows.length = ps.length ∧
      RepL w (Free A') rows.flatten (ps.map fun p => (a.eval p.2).cells.toList).flatten ∧ (∀ (i : Nat) (p : Nat × Operand), ps[i]? = some p → p.1 = n + i ∧ (a.eval p.2).cells.size = size) ∧
      Grows A A' w ∧ (∀ (r : Nat), A[r]? = some none → A'[r]? = some none) ∧ (∀ b, Own A' b → Own A b)
  | [], n, t, F, A, k, h, hR, hS => ⟨[], t, F, A, h, hR, hS, fun row hr => by simp at hr, rfl, by simpa using RepL.nil w (Free A), fun i p hp => by simp at hp, .refl _ _, fun _ h => h, fun _ h => h⟩
  | (i, x) :: ps, n, t, F, A, k, h, hR, hS => by
    simp only [opE.frzParts] at h
    split at h
    case h_2 => simp at h
    rename_i c1 c2
    have hi : i = n := Nat.eq_of_beq_eq_true c1
    have hsz : (cellsV (val t x)).length = size := Nat.eq_of_beq_eq_true c2
    subst hi
    have hcv := cells_weak (val_rel hS x) (fun e => by rw [e] at h; simp [cellsV, frzCells] at h)
    obtain ⟨ds, t1, F1, A1, h1, h2, h3, h4, h5, h6, h7⟩ := frzCells_sound _ _ _ _ A _ h hR hS hcv.1 hcv.2
    obtain ⟨rows, t', F', A', g1, g2, g3, g4, g5, g6, g7, g8, g9, g10⟩ := frzParts_sound size ps (i + 1) t1 F1 A1 _ h1 h2 h3
    have hcs : (a.eval x).cells.size = size := by have := hcv.1; simp at this; omega
    refine ⟨ds :: rows, t', F', A', g1, g2, g3, fun row hr => ?_, by simp [g5], ?_, fun j p hp => ?_, h5.trans g8 (Nat.le_refl _) g9, fun r hr => g9 r (h6 r hr), fun b hb => h7 b (g10 b hb)⟩
    · rcases List.mem_cons.mp hr with rfl | hr
      · have := h4.1; simp at this; omega
      · exact g4 row hr
    · rw [List.flatten_cons, List.map_cons, List.flatten_cons]
      exact (h4.mono (fun _ _ _ => rfl) (fun b hb _ => ⟨fun ho => hb.1 (g10 b ho), hb.2⟩)).append g6
    · cases j with
      | zero => simp at hp; subst hp; exact ⟨rfl, hcs⟩
      | succ j => obtain ⟨e1, e2⟩ := g7 j p (by simpa using hp); exact ⟨by omega, e2⟩

omit [Bad] in
omit DW in
theorem bld1_cases {e size n : Nat} {ps : List (Nat × Operand)} {k2 : Option R} (h : bld1 E e size n t F ps k k2 = some r) : k2 = some r ∨ ∃ T x r2 rws ds, nstOf E e size = some T ∧ ps = [(0, x)] ∧ (cellsV (val t x))[T.c2]? = some (.sl r2) ∧
    root F r2 = some (.arr T.e2 T.es2 rws) ∧ toDs ((cellsV (val t x)).set T.c2 (.d (.arr rws))) = some ds ∧ leafs (cellsV (val t x)) = true ∧ ds.length = size ∧ size ≤ 16777216 ∧ n = 1 ∧
    k (.nsl F.length) (kill r2 t) (killF r2 F ++ [some (.nst T 1 [ds])]) = some r := by
  unfold bld1 at h
  split at h
  · exact .inl h
  rename_i T hT
  split at h
  case h_2 => exact .inl h
  rename_i x
  split at h
  case h_2 => exact .inl h
  rename_i r2 hc
  split at h
  case h_2 => simp at h
  rename_i e2 es2 rws hroot
  split at h
  case h_2 => simp at h
  rename_i ds hds
  split at h
  case h_2 => simp at h
  rename_i c1 c2 c3 c4 c5 c6
  rw [forceAll_eq, forceF_eq] at h
  have c3 : e2 = T.e2 := Nat.eq_of_beq_eq_true c3
  have c4 : es2 = T.es2 := Nat.eq_of_beq_eq_true c4
  subst c3
  subst c4
  exact .inr ⟨T, x, r2, rws, ds, hT, rfl, hc, hroot, hds, c1, Nat.eq_of_beq_eq_true c2, Nat.le_of_ble_eq_true c5, Nat.eq_of_beq_eq_true c6, h⟩

theorem gives_bld1 (hE : EnvOK E P) (hR : Roots w A F) (hS : Slots w A t a.tmps) (ty : TypeId) (ps : Array (Nat × Operand)) (ho : o.op = .buildSlice ty 1 ps) {e : TypeId} (h2 : P.underlying ty = some (.slice e)) {j : TI} (hj : look E.tys e = some j)
    {T : NT} {x : Operand} {r2 : Nat} {rws : List (List D)} {ds : List D} (hT : nstOf E e j.size = some T) (hps : ps.toList = [(0, x)]) (hcc : (cellsV (val t x))[T.c2]? = some (.sl r2)) (hroot2 : root F r2 = some (.arr T.e2 T.es2 rws))
    (hds : toDs ((cellsV (val t x)).set T.c2 (.d (.arr rws))) = some ds) (hlf : leafs (cellsV (val t x)) = true) (hdl : ds.length = j.size) (hsm : j.size ≤ 16777216)
    (h : k (.nsl F.length) (kill r2 t) (killF r2 F ++ [some (.nst T 1 [ds])]) = some r) : GivesE P w A a o k r := by
  obtain ⟨rfl, hes, hc2, h02⟩ := nstOf_ok hT
  obtain ⟨tj, q1, q2, q3, q4, q5⟩ := hE.ty _ _ hj
  obtain ⟨hcr, hone⟩ := cells_rel (val_rel hS x) hlf
  have hdl2 := ds_len hds
  have hul : (a.eval x).cells.toList.length = j.size := by have := hcr.1; omega
  obtain ⟨uc, huc⟩ : ∃ uc, (a.eval x).cells.toList[T.c2]? = some uc := ⟨(a.eval x).cells.toList[T.c2]'(by omega), by rw [List.getElem?_eq_getElem]⟩
  obtain ⟨v2, hA2, hs2, hown, _⟩ := own_of_root hR hroot2 (hcr.2 _ _ _ hcc huc)
  obtain ⟨ob, hob⟩ : ∃ ob, Obj.cells (a.eval x).cells.toList.toArray T.e (0, 0) = ob := ⟨_, rfl⟩
  have hb := below_push w ob
  have hnew : ({ w with heap := w.heap.push ob } : World).heap[w.heap.size]? = some ob := push_new _ _
  have hpa : ps = #[(0, x)] := by apply Array.ext'; simpa using hps
  have hrun : (execOp a.eval o).run P w = .ok (.value (.slice (some ⟨w.heap.size, 0, none⟩) 1 1)) { w with heap := w.heap.push ob } := by
    have hfill := fill_whole j.size [(0, a.eval x)] 0 [] ((Array.range (1 * j.size)).map (j.zero.cells[· % j.zero.cells.size]!)).toList (by simp) (by simp) (fun l p hp => by
      cases l with
      | zero => simp at hp; subst hp; exact ⟨rfl, by simpa using hul⟩
      | succ l => simp at hp)
    simp only [List.nil_append, Array.toArray_toList] at hfill
    have hrun := run_buildSlice (P := P) w ty T.e 1 #[(0, a.eval x)] _ tj j.zero h2 q1 q5 (by rw [q3]; omega) (by rw [q3]; omega) (by rw [q3]; exact hfill)
    simp only [execOp, ho, Sem.run_bind, hpa]
    have hmap : ((#[(0, x)] : Array (Nat × Operand)).map fun x => match x with | (i, x) => (i, a.eval x)) = #[(0, a.eval x)] := by simp
    rw [hmap, hrun, ← hob]
    simp
  obtain ⟨ri, hri⟩ : ∃ ri, RI.nst (.slice (some ⟨w.heap.size, 0, none⟩) 1 1) T 1 [v2] = ri := ⟨_, rfl⟩
  have hrb : ∀ b, ri.has b → (RI.arr v2 T.e2 T.es2).has b ∨ b = w.heap.size := by
    subst hri
    rintro b (hb | ⟨i, u, hi, hu, hb⟩)
    · injection hb with hb; exact .inr hb.symm
    · have : i = 0 := by omega
      subst this
      simp at hu; subst hu
      exact .inl hb
  have hold : ∀ b, (RI.arr v2 T.e2 T.es2).has b → b < w.heap.size := fun b hb => hR.lt b ⟨r2, _, hA2, hb⟩
  have hwf : ∀ b, Free A b → b < w.heap.size → ({ w with heap := w.heap.push ob } : World).heap[b]? = w.heap[b]? := fun b _ hlt => hb.block b hlt
  have hfree : ∀ b, Free A b → b < w.heap.size → Free (A.set r2 none ++ [some ri]) b := by
    refine fun b hf hlt => ⟨fun ho => ?_, hf.2⟩
    rcases own_append ho with h1 | h1
    · exact hf.1 (own_drop h1)
    · rcases hrb b h1 with h3 | h3
      · exact hf.1 ⟨r2, _, hA2, h3⟩
      · omega
  have hkeep : ∀ (r' : Nat) (y : RI), A[r']? = some (some y) → r' ≠ r2 → (A.set r2 none ++ [some ri])[r']? = some (some y) := fun r' y hy hne => get_append (get_drop hy hne)
  have hsub : ∀ {c : V} {u : Value}, RelV w A c u → RelV { w with heap := w.heap.push ob } (A.set r2 none ++ [some ri]) (subV (killS r2) (killP r2) .bp c) u := by
    intro c u hc
    refine sub_rel hwf hfree (fun r' v1 e' es' hA1 u1 hv1 => ?_) (fun r' i j g n cap es' e' hA1 => ?_) (fun r' j g hA1 => ?_) (fun r' v1 T n vs hA1 => ?_) hc
    · unfold killS
      split
      · exact .dead _
      · rename_i hb
        exact .sl r' v1 e' es' (hkeep _ _ hA1 (fun e => by subst e; simp at hb)) u1 hv1
    · unfold killP
      split
      · exact .dead _
      · rename_i hb
        exact .ptr r' i j g n cap es' e' (hkeep _ _ hA1 (fun e => by subst e; simp at hb))
    · exact .bp r' j g (hkeep _ _ hA1 (fun e => by subst e; rw [hA2] at hA1; simp at hA1))
    · exact subN_kill fun hr => hkeep _ _ hA1 fun e => hr e.symm
  have hw0 : ∀ b, (Free A b ∧ b < w.heap.size) → b < w.heap.size → ({ w with heap := w.heap.push ob } : World).heap[b]? = w.heap[b]? := fun b hb hlt => hwf b hb.1 hlt
  have hN0 : NstRel w (fun b => Free A b ∧ b < w.heap.size) (.slice none 0 0) T 0 ((List.range ([] : List (List D)).length).map fun i => ([] : List Value).getD (i * T.es + T.c2) undef) [] := NstRel.of_arr (e := T.e) (es := T.es) hc2 h02 (fun _ h => by simp at h) (ownsB_nil w 0 T.e T.es) (RepL.nil _ _)
  have happ := NstRel.app (w' := { w with heap := w.heap.push ob }) (v' := .slice (some ⟨w.heap.size, 0, none⟩) 1 1) (n' := 1) (u := v2) (ys := (a.eval x).cells.toList) (row := ds) (uy := uc) hN0 (ownsB_nil w 0 T.e T.es) hw0 (fun i u b h => absurd h (Nat.not_lt_zero _))
    ⟨by simp; rw [← hes] at hul; simpa using hul, .inr ⟨w.heap.size, 1, (a.eval x).cells.toList.toArray, rfl, Nat.zero_le _, ⟨(0, 0), by rw [hob]; exact hnew, .z _ _⟩, Nat.le_refl _, by unfold maxLen; omega, by simp; rw [← hes] at hul; simpa using hul, by rw [List.toList_toArray]; exact List.take_of_length_le (by rw [hul, hes]; simp)⟩⟩
    (by rw [hes]; exact hdl) (by rw [hes]; exact hul) huc
    (fun q x' y hq hx hy => by
      have h4 := hcr.2 q _ y (ds_off hds hq hx) hy
      cases h4 with
      | d _ _ h => exact h.mono hwf (fun b hb hlt => ⟨hb, hlt⟩))
    (.inr ⟨rfl, rfl, hs2, rws, ds_at hds (List.getElem?_eq_some_iff.mp hcc).1, hown.mono hwf (fun b hb hlt => ⟨hb, hlt⟩) (fun b hbb => hb.block b (hold b hbb)), fun b hbb => ⟨fun e => by have h0 := hold b hbb; simp only [Value.ownBlock, Option.some.injEq] at e; omega, fun i u h => absurd h (Nat.not_lt_zero _)⟩⟩)
  have hroot' : RootRel { w with heap := w.heap.push ob } (A.set r2 none ++ [some ri]) ri (.nst T 1 [ds]) := by
    subst hri
    exact ⟨rfl, rfl, happ.mono (fun _ _ _ => rfl) (fun b hf _ => hfree b hf.1 hf.2) (fun _ _ => rfl)⟩
  have hsize : w.heap.size ≤ ({ w with heap := w.heap.push ob } : World).heap.size := by simp
  refine ⟨_, _, _, _, A.set r2 none ++ [some ri], _, h, .inl hrun, hR.renew (ri := ri) hA2 (fun b hlt _ => hb.block b hlt) hsize (fun b hbb => ?_) hsub hroot', hS.sub hsub, ?_, .of_below hb, ?_, ?_⟩
  · rcases hrb b hbb with h1 | h1
    · exact ⟨.inl h1, Nat.lt_of_lt_of_le (hold b h1) hsize⟩
    · subst h1; exact ⟨.inr (Nat.le_refl _), by simp⟩
  · subst hri
    refine .nsl _ _ T 1 [v2] ?_ _ (.of _ _ _)
    have : F.length = (A.set r2 none).length := by simp [hR.len]
    rw [this]; simp
  · refine ⟨by simp, fun r' y hy => ?_, fun b ho => ?_⟩
    · rcases (Grows.drop A w r2).old r' y hy with h1 | h1
      · exact .inl (get_append h1)
      · exact .inr (get_append h1)
    · rcases own_append ho with h1 | h1
      · exact .inl (own_drop h1)
      · rcases hrb b h1 with h3 | h3
        · exact .inl ⟨r2, _, hA2, h3⟩
        · exact .inr (by omega)
  · intro r' hr'
    refine get_append ?_
    by_cases hne : r' = r2
    · subst hne; rw [hA2] at hr'; simp at hr'
    · rw [List.getElem?_set_ne (fun e => hne e.symm)]; exact hr'

theorem gives_buildSlice (hE : EnvOK E P) (hz : ∀ t i, look E.tys t = some i → i.zero.cells.size = i.size) (hR : Roots w A F) (hS : Slots w A t a.tmps) (ty : TypeId) (n : Nat) (ps : Array (Nat × Operand)) (ho : o.op = .buildSlice ty n ps)
    (h : opE E t F o k = some r) : GivesE P w A a o k r := by
  simp only [opE, ho] at h
  split at h
  case h_2 => simp at h
  rename_i i hi
  split at h
  case h_2 => simp at h
  rename_i e hd
  split at h
  case h_2 => simp at h
  rename_i j hj
  split at h
  case h_2 => simp at h
  rename_i c0
  have hsz : 0 < j.size := by have := c0; simp [Nat.blt_eq] at this; exact this
  rcases bld1_cases h with h | ⟨T, x, r2, rws, ds, hT, hps, hcc, hroot2, hds, hlf, hdl, hsm, rfl, h'⟩
  rotate_left
  · obtain ⟨_, _, h2, _⟩ := hE.ty _ _ hi
    rw [hd] at h2
    exact gives_bld1 hE hR hS ty ps ho h2 hj hT hps hcc hroot2 hds hlf hdl hsm h'
  obtain ⟨rows, t', F', A', h, g2, g3, g4, g5, g6, g7, g8, g9, g10⟩ := frzParts_sound (w := w) (a := a) _ _ _ _ _ A _ h hR hS
  split at h
  case h_2 => simp at h
  rename_i c1 c2
  have hn : rows.length = n := Nat.eq_of_beq_eq_true c1
  have hsm : n * j.size ≤ 16777216 := Nat.le_of_ble_eq_true c2
  obtain ⟨_, _, h2, _⟩ := hE.ty _ _ hi
  rw [hd] at h2
  obtain ⟨tj, q1, q2, q3, q4, q5⟩ := hE.ty _ _ hj
  have hps : ps.toList.length = n := by rw [← g5, hn]
  have hfl : (ps.toList.map fun p => (a.eval p.2).cells.toList).flatten.length = n * j.size := by
    rw [← g6.1, flat_len rows g4, hn]
  have hnew : GivesE P w A' a o k r := by
    refine new_row (e := e) (es := j.size) (rows := rows) (xs := (ps.toList.map fun p => (a.eval p.2).cells.toList).flatten) (cap := n) (cells := (ps.toList.map fun p => (a.eval p.2).cells.toList).flatten.toArray) (w1 := w)
      g2 g3 (.z _ _) hsz g4 g6 (Below.refl _ _) rfl (by omega) (by
        have := Nat.le_mul_of_pos_right n hsz
        unfold maxLen; omega) (by simpa using hfl) (by
        rw [List.toList_toArray]; exact List.take_of_length_le (by rw [hfl, hn]; exact Nat.le_refl _)) h ?_
    rw [hn]
    have hev : ((ps.map fun p => (p.1, a.eval p.2)).toList.map fun p => p.2.cells.toList).flatten = (ps.toList.map fun p => (a.eval p.2).cells.toList).flatten := by
      simp [List.map_map, Function.comp_def]
    by_cases hn0 : n = 0
    · have hps0 : ps = #[] := by apply Array.ext'; exact List.eq_nil_of_length_eq_zero (by omega)
      subst hps0
      subst hn0
      have hr0 : ∀ f : Nat → Value, Array.map f (Array.range 0) = #[] := fun f => Array.eq_empty_of_size_eq_zero (by simp)
      simp [execOp, ho, Instr.buildSlice, run_underlying h2, sizeOf, typeInfo, q1, q3, Instr.fill, newRow, hr0]
    · have hpos : 0 < n * j.size := Nat.mul_pos (by omega) hsz
      have hfill := fill_whole j.size (ps.map fun p => (p.1, a.eval p.2)).toList 0 [] ((Array.range (n * j.size)).map (j.zero.cells[· % j.zero.cells.size]!)).toList (by simp) (by simp [hps]) (fun l p hp => by
        simp only [Array.toList_map, List.getElem?_map, Option.map_eq_some_iff] at hp
        obtain ⟨p0, hp0, rfl⟩ := hp
        exact g7 l p0 hp0)
      simp only [List.nil_append, Array.toArray_toList] at hfill
      rw [hev] at hfill
      have hrun := run_buildSlice (P := P) w ty e n (ps.map fun p => (p.1, a.eval p.2)) _ tj j.zero h2 q1 q5 (by rw [q3]; omega) (by rw [q3]; omega) (by rw [q3]; exact hfill)
      simp only [execOp, ho, Sem.run_bind]
      have hmap : (ps.map fun x => match x with | (i, x) => (i, a.eval x)) = ps.map fun p => (p.1, a.eval p.2) := rfl
      rw [hmap, hrun]
      rfl
  obtain ⟨v, u, t2, F2, A2, w', k1, k2, k3, k4, k5, k6, k7, k8⟩ := hnew
  refine ⟨v, u, t2, F2, A2, w', k1, k2, k3, k4, k5, ⟨k6.drawn, k6.os, k6.tape, k6.output, k6.size, fun b hb hf => k6.block b hb (fun hx => hf (g10 b hx))⟩, g8.trans k7 (Nat.le_refl _) k8, fun r hr => k8 r (g9 r hr)⟩

theorem gives_nilS (hE : EnvOK E P) (hR : Roots w A F) (hS : Slots w A t a.tmps) (ho : o.op = .move (.const (.slice none 0 0)) ∨ o.op = .assign (.const (.slice none 0 0)))
    (h : opE.nilS E t F o k = some r) : GivesE P w A a o k r := by
  simp only [opE.nilS] at h
  split at h
  case h_2 => simp at h
  rename_i i hi
  split at h
  case h_2 => simp at h
  rename_i e hd
  split at h
  case h_2 => simp at h
  rename_i j hj
  split at h
  case h_2 => simp at h
  rename_i c0
  have hsz : 0 < j.size := by have := c0; simp [Nat.blt_eq] at this; exact this
  have hb := Below.refl w.heap.size w
  have hrun : (execOp a.eval o).run P w = .ok (.value (.slice none 0 0)) w := by
    rcases ho with ho | ho <;> simp only [execOp, ho] <;> rfl
  unfold newK at h
  split at h
  · have hg : ∀ b, (RI.arr (.slice none 0 0) e j.size).has b → w.heap.size ≤ b ∧ b < w.heap.size := by intro b h; simp [RI.has, Value.ownBlock] at h
    have hfree := free_append (A := A) (ri := .arr (.slice none 0 0) e j.size) (w := w) (fun b h => (hg b h).1)
    refine ⟨_, _, _, _, A ++ [some (.arr (.slice none 0 0) e j.size)], w, h, .inl hrun, hR.grow hb hg ?_, hS.mono (fun _ _ _ => rfl) hfree (fun _ _ h => get_append h), ?_, .refl _ _, .append (fun b h => (hg b h).1), none_append⟩
    · exact ⟨rfl, rfl, hsz, fun row hr => by simp at hr, [], ownsB_nil w 0 e j.size, by simpa using RepL.nil w _⟩
    · refine .sl _ _ e j.size ?_ _ (.of _ _ _)
      rw [← hR.len]; simp
  · rename_i T hT
    obtain ⟨he1, he2, hc, h2⟩ := nstOf_ok hT
    have hg : ∀ b, (RI.nst (.slice none 0 0) T 0 []).has b → w.heap.size ≤ b ∧ b < w.heap.size := by
      rintro b (h | ⟨i, u, h, _⟩)
      · simp [Value.ownBlock] at h
      · exact absurd h (Nat.not_lt_zero _)
    have hfree := free_append (A := A) (ri := .nst (.slice none 0 0) T 0 []) (w := w) (fun b h => (hg b h).1)
    refine ⟨_, _, _, _, A ++ [some (.nst (.slice none 0 0) T 0 [])], w, h, .inl hrun, hR.grow hb hg ?_, hS.mono (fun _ _ _ => rfl) hfree (fun _ _ h => get_append h), ?_, .refl _ _, .append (fun b h => (hg b h).1), none_append⟩
    · exact ⟨rfl, rfl, NstRel.of_arr (rows := []) (xs := []) (e := T.e) (es := T.es) hc h2 (fun row hr => by simp at hr) (ownsB_nil w 0 T.e T.es) (by simpa using RepL.nil w _)⟩
    · refine .nsl _ _ T 0 [] ?_ _ (.of _ _ _)
      rw [← hR.len]; simp

/-! ### A struct built whose slices are the frame's own -/
omit [Bad] in
omit DW in
theorem nilFs_ok (E : Env) (cells : List Value) (given : List Nat) : ∀ (fs : List Field) (n : Nat), ∀ p ∈ nilFs E cells given n fs, cells[p.1]? = some (.slice none 0 0) ∧
    ((∃ e es, 0 < es ∧ p.2 = (false, .arr e es [])) ∨ ∃ T : NT, T.c2 < T.es ∧ 0 < T.es2 ∧ p.2 = (true, .nst T 0 []))
  | [], n, p, h => by simp [nilFs] at h
  | f :: fs, n, p, h => by
    have ih := nilFs_ok E cells given fs (n + 1) p
    simp only [nilFs] at h
    split at h
    · exact ih h
    split at h
    case h_2 => exact ih h
    split at h
    case h_2 => exact ih h
    split at h
    case h_2 => exact ih h
    rename_i h1 h2
    split at h
    · rename_i h3
      rcases List.mem_cons.mp h with h | h
      · split at h
        · subst h; exact ⟨h2, .inl ⟨_, _, by simpa [Nat.blt_eq] using h3, rfl⟩⟩
        · rename_i T hT
          obtain ⟨_, _, c1, c2⟩ := nstOf_ok hT
          subst h; exact ⟨h2, .inr ⟨T, c1, c2, rfl⟩⟩
      · exact ih h
    · exact ih h
theorem seed_one {A : List (Option RI)} {F : Fo} {cs : List V} {cells : List Value} {off : Nat} (hR : Roots w A F) (hS : Slots w A t a.tmps) (hc : RelL w A cs cells) (hv : cells[off]? = some (.slice none 0 0)) {ri : RI} {R : Root} {c0 : V}
    (hg : ∀ b, ¬ ri.has b) (hroot : RootRel w (A ++ [some ri]) ri R) (hc0 : RelV w (A ++ [some ri]) c0 (.slice none 0 0)) :
    Roots w (A ++ [some ri]) (F ++ [some R]) ∧ Slots w (A ++ [some ri]) t a.tmps ∧ RelL w (A ++ [some ri]) (cs.set off c0) cells ∧ Grows A (A ++ [some ri]) w := by
  have hb := Below.refl w.heap.size w
  have hg' : ∀ b, ri.has b → w.heap.size ≤ b ∧ b < w.heap.size := fun b h => absurd h (hg b)
  have hfree := free_append (A := A) (ri := ri) (w := w) (fun b h => (hg' b h).1)
  refine ⟨hR.grow hb hg' hroot, hS.mono (fun _ _ _ => rfl) hfree (fun _ _ h => get_append h), ?_, .append (fun b h => (hg' b h).1)⟩
  have hm := hc.mono (fun _ _ _ => rfl) hfree (fun _ _ h => get_append h)
  refine ⟨by rw [List.length_set]; exact hm.1, fun i c v k1 k2 => ?_⟩
  by_cases hi : i = off
  · subst hi
    rw [List.getElem?_set] at k1
    simp only [if_true] at k1
    split at k1
    · injection k1 with k1
      subst k1
      rw [hv] at k2
      injection k2 with k2
      subst k2
      exact hc0
    · simp at k1
  · rw [List.getElem?_set_ne (fun h => hi h.symm)] at k1
    exact hm.2 i c v k1 k2
theorem seed_ok : ∀ (nf : List (Nat × Bool × Root)) {A : List (Option RI)} {F : Fo} {cs : List V} {cells : List Value}, Roots w A F → Slots w A t a.tmps → RelL w A cs cells →
    (∀ p ∈ nf, cells[p.1]? = some (.slice none 0 0) ∧ ((∃ e es, 0 < es ∧ p.2 = (false, .arr e es [])) ∨ ∃ T : NT, T.c2 < T.es ∧ 0 < T.es2 ∧ p.2 = (true, .nst T 0 []))) →
    ∃ A', Roots w A' (F ++ seedF nf) ∧ Slots w A' t a.tmps ∧ RelL w A' (seedV nf F.length cs) cells ∧ Grows A A' w ∧ (∀ (r : Nat), A[r]? = some none → A'[r]? = some none)
  | [], A, F, cs, cells, hR, hS, hc, _ => ⟨A, by simpa [seedF] using hR, hS, hc, .refl _ _, fun _ h => h⟩
  | (off, bR) :: nf, A, F, cs, cells, hR, hS, hc, hp => by
    obtain ⟨hv, hq⟩ := hp (off, bR) (by simp)
    dsimp only at hv hq
    rcases hq with ⟨e, es, hes, rfl⟩ | ⟨T, c1, c2, rfl⟩
    · obtain ⟨hR1, hS1, hc1, hg1⟩ := seed_one (ri := .arr (.slice none 0 0) e es) (R := .arr e es []) (c0 := .sl F.length) hR hS hc hv (fun b h => by simp [RI.has, Value.ownBlock] at h)
        ⟨rfl, rfl, hes, fun row hr => by simp at hr, [], ownsB_nil w 0 e es, by simpa using RepL.nil w _⟩ (.sl _ _ e es (by rw [← hR.len]; simp) _ (.of _ _ _))
      obtain ⟨A', g1, g2, g3, g4, g5⟩ := seed_ok nf hR1 hS1 hc1 (fun p h => hp p (by simp [h]))
      exact ⟨A', by simpa [seedF] using g1, g2, by simpa [seedV] using g3, Grows.trans hg1 g4 (Nat.le_refl _) g5, fun r h => g5 r (none_append r h)⟩
    · obtain ⟨hR1, hS1, hc1, hg1⟩ := seed_one (ri := .nst (.slice none 0 0) T 0 []) (R := .nst T 0 []) (c0 := .nsl F.length) hR hS hc hv (fun b h => by
          rcases h with h | ⟨i, u, h, _⟩
          · simp [Value.ownBlock] at h
          · exact absurd h (Nat.not_lt_zero _))
        ⟨rfl, rfl, NstRel.of_arr (rows := []) (xs := []) (e := T.e) (es := T.es) c1 c2 (fun row hr => by simp at hr) (ownsB_nil w 0 T.e T.es) (by simpa using RepL.nil w _)⟩ (.nsl _ _ T 0 [] (by rw [← hR.len]; simp) _ (.of _ _ _))
      obtain ⟨A', g1, g2, g3, g4, g5⟩ := seed_ok nf hR1 hS1 hc1 (fun p h => hp p (by simp [h]))
      exact ⟨A', by simpa [seedF] using g1, g2, by simpa [seedV] using g3, Grows.trans hg1 g4 (Nat.le_refl _) g5, fun r h => g5 r (none_append r h)⟩
theorem gives_bldN (hE : EnvOK E P) (hR : Roots w A F) (hS : Slots w A t a.tmps) (ty : TypeId) (ps : Array (Nat × Operand)) (ho : o.op = .build ty ps) {k : V → List V → Fo → Option R}
    (h : bldN E t F ty ps.toList (fun v F => k v t F) = some r) : GivesE P w A a o k r := by
  simp only [bldN] at h
  split at h
  case h_2 => simp at h
  rename_i i hi
  split at h
  case h_2 => simp at h
  rename_i fs hd
  split at h
  case h_2 => simp at h
  rename_i places hp
  unfold bldOn at h
  generalize hnf : nilFs E i.zero.cells.toList (mapO Prod.fst ps.toList) 0 fs.toList = nf at h
  obtain ⟨A', g1, g2, g3, g4, g5⟩ := seed_ok nf hR hS (zeros_rel w A i.zero) (by rw [← hnf]; exact nilFs_ok _ _ _ _ _)
  obtain ⟨cs, cells, h1, h2, h3⟩ := fill_rel g2 _ _ _ _ g3 h
  obtain ⟨ti, q1, q2, q3, q4, q5⟩ := hE.ty _ _ hi
  have hbuilt : P.built ty (ps.map fun (i, x) => (i, a.eval x)).toList = some cells := by
    unfold Program.built
    rw [q1, q2, hd]
    simp only [q5, places_run hE fs.toList places hp, Array.toList_map]
    exact h3
  refine ⟨_, .agg cells, _, _, A', w, h1, .inl ?_, g1, g2, .agg _ _ (by rw [h2.1]; simp) (fun j c u k1 k2 => h2.2 j c u k1 (by simpa using k2)), .refl _ _, g4, g5⟩
  simp only [execOp, ho, Sem.run_bind, run_build w ty _ cells hbuilt, Result.andThen_ok, Sem.run_pure]

/-! ### A row cut, a row's end emptied -/
omit [Bad] in
omit DW in
theorem owns_take {w : World} {e : TypeId} {es n m : Nat} {v : Value} {xs : List Value} (h : ownsB w 0 e es v n xs) (hm : m ≤ n) : ∃ v', (v = .slice none 0 0 ∧ v' = .slice none 0 0 ∨ ∃ g cap, v = .slice (some ⟨g, 0, none⟩) n cap ∧ v' = .slice (some ⟨g, 0, none⟩) m cap) ∧ ownsB w 0 e es v' m (xs.take (m * es)) := by
  have hms : m * es ≤ n * es := Nat.mul_le_mul_right _ hm
  rcases h.2 with ⟨rfl, hz⟩ | ⟨g, cap, cur, rfl, hg, ⟨fz, hh, hmk⟩, hnc, hcm, hcs, htake⟩
  · have : m = 0 := by omega
    subst this
    exact ⟨_, .inl ⟨rfl, rfl⟩, by simp, .inl ⟨rfl, rfl⟩⟩
  · refine ⟨.slice (some ⟨g, 0, none⟩) m cap, .inr ⟨g, cap, rfl, rfl⟩, by rw [List.length_take, h.1]; omega, .inr ⟨g, cap, cur, rfl, hg, ⟨fz, hh, hmk⟩, by omega, hcm, hcs, ?_⟩⟩
    rw [← htake, List.take_take]; congr 1; omega

omit [Bad] in
omit DW in
theorem flat_take {α : Type} {es : Nat} : ∀ (rows : List (List α)), (∀ row ∈ rows, row.length = es) → ∀ m, (rows.take m).flatten = rows.flatten.take (m * es)
  | [], _, m => by simp
  | r :: rows, hl, 0 => by simp
  | r :: rows, hl, m + 1 => by
    have hr := hl r (by simp)
    have e1 : r.take ((m + 1) * es) = r := List.take_of_length_le (by rw [hr, Nat.succ_mul]; omega)
    have e2 : (m + 1) * es - es = m * es := by rw [Nat.succ_mul]; omega
    rw [List.take_succ_cons, List.flatten_cons, List.flatten_cons, flat_take rows (fun x hx => hl x (by simp [hx])) m, List.take_append, e1, hr, e2]

omit DW in
/-- A root of one's own under another number. -/
theorem reroot (hR : Roots w A F) {s : Nat} {e : TypeId} {es : Nat} {rows : List (List D)} (hroot : root F s = some (.arr e es rows)) {ux : Value} (hv : RelV w A (.sl s) ux) :
    ∃ A', Roots w A' (killF s F ++ [some (.arr e es rows)]) ∧ RelV w A' (.sl F.length) ux ∧ Grows A A' w ∧ (∀ (r : Nat), A[r]? = some none → A'[r]? = some none) ∧ ∀ (t : List V) (tm : Array Value), Slots w A t tm → Slots w A' (kill s t) tm := by
  obtain ⟨ri, r1, r2⟩ := hR.rel s _ (root_get hroot)
  cases hv with
  | sl _ v0 e3 es3 hA _ hform =>
  rw [hA] at r1
  injection r1 with r1; injection r1 with r1
  subst r1
  have hr2 := r2
  obtain ⟨he3, hes3, hes, hl, xs, how, hrep⟩ := r2
  subst he3
  subst hes3
  have hfree : ∀ b, Free A b → b < w.heap.size → Free (A.set s none ++ [some (.arr v0 e es)]) b := by
    refine fun b hf hb => ⟨fun ho => ?_, hf.2⟩
    rcases own_append ho with h1 | h1
    · exact hf.1 (own_drop h1)
    · exact hf.1 ⟨s, _, hA, h1⟩
  have hkeep : ∀ (r' : Nat) (y : RI), A[r']? = some (some y) → r' ≠ s → (A.set s none ++ [some (RI.arr v0 e es)])[r']? = some (some y) := fun r' y hy hne => get_append (get_drop hy hne)
  have hsub : ∀ {c : V} {u : Value}, RelV w A c u → RelV w (A.set s none ++ [some (.arr v0 e es)]) (subV (killS s) (killP s) .bp c) u := by
    intro c u hc
    refine sub_rel (fun _ _ _ => rfl) hfree (fun r' v1 e' es' hA1 u1 hv1 => ?_) (fun r' i j g n cap es' e' hA1 => ?_) (fun r' j g hA1 => ?_) (fun r' v1 T n vs hA1 => ?_) hc
    · unfold killS
      split
      · exact .dead _
      · rename_i hb
        exact .sl r' v1 e' es' (hkeep _ _ hA1 (fun e => by subst e; simp at hb)) u1 hv1
    · unfold killP
      split
      · exact .dead _
      · rename_i hb
        exact .ptr r' i j g n cap es' e' (hkeep _ _ hA1 (fun e => by subst e; simp at hb))
    · exact .bp r' j g (hkeep _ _ hA1 (fun e => by subst e; rw [hA] at hA1; simp at hA1))
    · exact subN_kill fun hr => hkeep _ _ hA1 fun e => hr e.symm
  have hroot' : RootRel w (A.set s none ++ [some (.arr v0 e es)]) (.arr v0 e es) (.arr e es rows) := ⟨rfl, rfl, hes, hl, xs, how, hrep.mono (fun _ _ _ => rfl) hfree⟩
  refine ⟨A.set s none ++ [some (.arr v0 e es)], hR.renew (ri := .arr v0 e es) hA (fun _ _ _ => rfl) (Nat.le_refl _) (fun b hb => ⟨.inl hb, hR.lt b ⟨s, _, hA, hb⟩⟩) hsub hroot', ?_, ?_, ?_, fun t tm hS => hS.sub hsub⟩
  · refine .sl _ v0 e es ?_ _ hform
    have : F.length = (A.set s none).length := by simp [hR.len]
    rw [this]; simp
  · refine ⟨by simp, fun r' y hy => ?_, fun b ho => ?_⟩
    · rcases (Grows.drop A w s).old r' y hy with h1 | h1
      · exact .inl (get_append h1)
      · exact .inr (get_append h1)
    · rcases own_append ho with h1 | h1
      · exact .inl (own_drop h1)
      · exact .inl ⟨s, _, hA, h1⟩
  · intro r' hr'
    refine get_append ?_
    by_cases hne : r' = s
    · subst hne; rw [hA] at hr'; simp at hr'
    · rw [List.getElem?_set_ne (fun e => hne e.symm)]; exact hr'

theorem gives_cut (hE : EnvOK E P) (hR : Roots w A F) (hS : Slots w A t a.tmps) (ty : TypeId) (x : Operand) (lo hi mx : Option Operand) (ho : o.op = .slice ty x lo hi mx) (h : opE E t F o k = some r) : GivesE P w A a o k r := by
  simp only [opE, ho] at h
  split at h
  · simp at h
  split at h
  rotate_left
  · obtain ⟨v, u, h1, h2, h3⟩ := opQ_sound hE hR hS _ h
    exact ⟨v, u, t, F, A, w, h1, .inl (h3 w o (Below.refl _ _) ho), hR, hS, h2, .refl _ _, .refl _ _, fun _ h => h⟩
  rename_i s hvx
  split at h
  · split at h
    case h_2 => simp at h
    rename_i e es rows hroot
    obtain ⟨v1, es1, g1, g2, g3, g4⟩ := frz_all hR hroot
    obtain ⟨v, u, h1, h2, h3⟩ := opQ_sound hE g3 (hS.sub g4) _ h
    refine ⟨v, u, _, _, A.set s none, w, h1, .inl (h3 w o (Below.refl _ _) ho), g3, hS.sub g4, h2, .refl _ _, Grows.drop A w s, fun r hr => ?_⟩
    by_cases hss : r = s
    · subst hss; rw [g1] at hr; simp at hr
    · rw [List.getElem?_set_ne (fun e => hss e.symm)]; exact hr
  split at h
  case h_2 => simp at h
  rename_i e es rows i hroot hi'
  split at h
  case h_2 => simp at h
  rename_i e' hd
  split at h
  case h_2 => simp at h
  rename_i q hq
  obtain ⟨_, _, h2, _⟩ := hE.ty _ _ hi'
  rw [hd] at h2
  have hq' : sizeV E e' = some q.size := by simp only [sizeV, hq]
  obtain ⟨ri, r1, r2⟩ := hR.rel s _ (root_get hroot)
  have hv := val_rel hS x
  rw [hvx] at hv
  generalize hex : a.eval x = ux at hv
  cases hv with
  | sl _ v0 e3 es3 hA _ hform =>
  rw [hA] at r1
  injection r1 with r1; injection r1 with r1
  subst r1
  obtain ⟨he3, hes3, hes, hl, xs, how, hrep⟩ := r2
  subst he3
  subst hes3
  split at h
  · -- the head of the row
    rename_i hh c1
    have hqs : q.size = es := Nat.eq_of_beq_eq_true c1
    split at h
    case h_2 => simp at h
    rename_i kk u hu
    split at h
    case h_2 => simp at h
    rename_i d1 d2
    rw [forceAll_eq, forceF_eq] at h
    have d1' : 0 ≤ u := of_decide_eq_true d1
    have d2' : u ≤ (rows.length : Int) := of_decide_eq_true d2
    obtain ⟨v', hvv0, how'⟩ := owns_take how (m := u.toNat) (by omega)
    obtain ⟨u', kS, hvv⟩ : ∃ u', SlOf v' u' ∧ ((∃ p, ux = .slice p 0 0 ∧ u' = .slice p 0 0 ∧ v0 = .slice none 0 0) ∨ ∃ g cap, ux = .slice (some ⟨g, 0, none⟩) rows.length cap ∧ u' = .slice (some ⟨g, 0, none⟩) u.toNat cap ∧ v0 = ux) := by
      rcases hvv0 with ⟨rfl, rfl⟩ | ⟨g, cap, rfl, rfl⟩
      · obtain ⟨_, rfl | ⟨_, p, rfl⟩⟩ := hform
        · exact ⟨_, .of _ _ _, .inl ⟨_, rfl, rfl, rfl⟩⟩
        · exact ⟨_, ⟨⟨_, _, _, rfl⟩, .inr ⟨rfl, p, rfl⟩⟩, .inl ⟨p, rfl, rfl, rfl⟩⟩
      · obtain ⟨_, rfl | ⟨hc, _⟩⟩ := hform
        · exact ⟨_, .of _ _ _, .inr ⟨g, cap, rfl, rfl, rfl⟩⟩
        · cases hc
    have hrun : (execOp a.eval o).run P w = .ok (.value u') w := by
      have hb : ∀ (cap : Nat), u.toNat ≤ cap → (Instr.sliceBounds true rows.length cap none (some (a.eval hh)) none).run P w = .ok (0, u.toNat, cap) w := by
        intro cap hcap
        have e2 := eval_lit hS hu
        simp [Instr.sliceBounds, e2, Instr.sliceBound, asIntOf, show u ≤ (cap : Int) by omega, d1']
      rcases hvv with ⟨p, rfl, rfl, rfl⟩ | ⟨g, cap, rfl, rfl, rfl⟩
      · have hz : rows.length = 0 := by
          rcases how.2 with ⟨_, hz⟩ | ⟨g, cap, cur, he, _⟩
          · exact hz
          · simp at he
        have hb0 := hb 0 (by omega)
        rw [hz] at hb0
        simp only [execOp, ho, hex, Sem.run_bind, Instr.sliceAt, Instr.slice, run_underlying h2, Result.andThen_ok, Option.isSome_none, Bool.false_eq_true, if_false, Option.map_none, Option.map_some, hb0, sizeV_run hE hq' w, Sem.run_pure]
        cases p with
        | none => simp; omega
        | some a0 => simp; omega
      · have hnc : rows.length ≤ cap := by
          rcases how.2 with ⟨he, _⟩ | ⟨g', cap', cur, he, _, _, hnc, _⟩
          · simp at he
          · simp only [Value.slice.injEq] at he
            omega
        have hb0 := hb cap (by omega)
        simp only [execOp, ho, hex, Sem.run_bind, Instr.sliceAt, Instr.slice, run_underlying h2, Result.andThen_ok, Option.isSome_none, Bool.false_eq_true, if_false, Option.map_none, Option.map_some, hb0, sizeV_run hE hq' w, Sem.run_pure]
        simp [add_at]
    have hblk : ∀ b, v'.ownBlock = some b → (RI.arr v0 e es).has b := by
      intro b hb
      rcases hvv0 with ⟨rfl, rfl⟩ | ⟨g, cap, rfl, rfl⟩
      · simp [Value.ownBlock] at hb
      · exact hb
    have hfree : ∀ b, Free A b → b < w.heap.size → Free (A.set s none ++ [some (.arr v' e es)]) b := by
      refine fun b hf hb => ⟨fun ho => ?_, hf.2⟩
      rcases own_append ho with h1 | h1
      · exact hf.1 (own_drop h1)
      · exact hf.1 ⟨s, _, hA, hblk b h1⟩
    have hkeep : ∀ (r' : Nat) (y : RI), A[r']? = some (some y) → r' ≠ s → (A.set s none ++ [some (RI.arr v' e es)])[r']? = some (some y) := fun r' y hy hne => get_append (get_drop hy hne)
    have hsub : ∀ {c : V} {u : Value}, RelV w A c u → RelV w (A.set s none ++ [some (.arr v' e es)]) (subV (killS s) (killP s) .bp c) u := by
      intro c u hc
      refine sub_rel (fun _ _ _ => rfl) hfree (fun r' v1 e' es' hA1 u1 hv1 => ?_) (fun r' i j g n cap es' e' hA1 => ?_) (fun r' j g hA1 => ?_) (fun r' v1 T n vs hA1 => ?_) hc
      · unfold killS
        split
        · exact .dead _
        · rename_i hb
          exact .sl r' v1 e' es' (hkeep _ _ hA1 (fun e => by subst e; simp at hb)) u1 hv1
      · unfold killP
        split
        · exact .dead _
        · rename_i hb
          exact .ptr r' i j g n cap es' e' (hkeep _ _ hA1 (fun e => by subst e; simp at hb))
      · exact .bp r' j g (hkeep _ _ hA1 (fun e => by subst e; rw [hA] at hA1; simp at hA1))
      · exact subN_kill fun hr => hkeep _ _ hA1 fun e => hr e.symm
    have hroot' : RootRel w (A.set s none ++ [some (.arr v' e es)]) (.arr v' e es) (.arr e es (rows.take u.toNat)) := by
      refine ⟨rfl, rfl, hes, fun row hrow => hl row (List.mem_of_mem_take hrow), xs.take (u.toNat * es), ?_, ?_⟩
      · rw [List.length_take, Nat.min_eq_left (by omega)]; exact how'
      · rw [flat_take rows hl]
        exact (repL_take hrep _).mono (fun _ _ _ => rfl) hfree
    refine ⟨_, u', _, _, A.set s none ++ [some (.arr v' e es)], w, h, .inl hrun, hR.renew (ri := .arr v' e es) hA (fun _ _ _ => rfl) (Nat.le_refl _) (fun b hb => ⟨.inl (hblk b hb), hR.lt b ⟨s, _, hA, hblk b hb⟩⟩) hsub hroot', hS.sub hsub, ?_, .refl _ _, ?_, ?_⟩
    · refine .sl _ v' e es ?_ _ kS
      have : F.length = (A.set s none).length := by simp [hR.len]
      rw [this]; simp
    · refine ⟨by simp, fun r' y hy => ?_, fun b ho => ?_⟩
      · rcases (Grows.drop A w s).old r' y hy with h1 | h1
        · exact .inl (get_append h1)
        · exact .inr (get_append h1)
      · rcases own_append ho with h1 | h1
        · exact .inl (own_drop h1)
        · exact .inl ⟨s, _, hA, hblk b h1⟩
    · intro r' hr'
      refine get_append ?_
      by_cases hne : r' = s
      · subst hne; rw [hA] at hr'; simp at hr'
      · rw [List.getElem?_set_ne (fun e => hne e.symm)]; exact hr'
  · -- its end
    rename_i ll c1
    have hqs : q.size = es := Nat.eq_of_beq_eq_true c1
    split at h
    case h_2 => simp at h
    rename_i kk u hu
    split at h
    case h_2 => simp at h
    rename_i d1 d2
    have d1' : 0 ≤ u := of_decide_eq_true d1
    have d2' : u < (rows.length : Int) := of_decide_eq_true d2
    rcases how.2 with ⟨_, hz⟩ | ⟨g, cap, cur, rfl, _, ⟨fz, hh, hmk⟩, hnc, hcm, hcs, htake⟩
    · omega
    obtain ⟨_, rfl | ⟨hc, _⟩⟩ := hform
    case inr => cases hc
    have hb : (Instr.sliceBounds true rows.length cap (some (a.eval ll)) none none).run P w = .ok (u.toNat, rows.length, cap) w := by
      have e1 := eval_lit hS hu
      simp [Instr.sliceBounds, e1, Instr.sliceBound, asIntOf, d1', show u ≤ (rows.length : Int) by omega]
    refine ⟨_, _, _, _, A, w, h, .inl ?_, hR, hS, .tl s u.toNat g rows.length cap es e hA (by omega) hnc, .refl _ _, .refl _ _, fun _ h => h⟩
    simp only [execOp, ho, hex, Sem.run_bind, Instr.sliceAt, Instr.slice, run_underlying h2, Result.andThen_ok, Option.isSome_none, Bool.false_eq_true, if_false, Option.map_none, Option.map_some, hb, sizeV_run hE hq' w, Sem.run_pure]
    rw [if_neg (by omega)]
    simp [add_at, hqs]
  · simp at h

/-! ### Maps -/
omit [Bad] in
omit DW in
theorem modify_set {α : Type} : ∀ (l : List α) (j : Nat) (f : α → α) {e : α}, l[j]? = some e → l.modify j f = l.set j (f e)
  | [], j, f, e, h => by simp at h
  | x :: l, 0, f, e, h => by simp at h; subst h; rfl
  | x :: l, j + 1, f, e, h => by
    simp only [List.getElem?_cons_succ] at h
    simp only [List.modify_succ_cons, List.set_cons_succ, modify_set l j f h]
theorem gives_makeMap (hE : EnvOK E P) (hR : Roots w A F) (hS : Slots w A t a.tmps) (ty : TypeId) (ho : o.op = .makeMap ty none) (h : opE E t F o k = some r) : GivesE P w A a o k r := by
  simp only [opE, ho] at h
  split at h
  case h_2 => simp at h
  rename_i i hi
  split at h
  case h_2 => simp at h
  rename_i kt et hd
  split at h
  case h_2 => simp at h
  rename_i ki hki
  split at h
  case h_2 => simp at h
  rename_i K hdk
  have hb := below_push w (.map #[] 0)
  have hg : ∀ b, (RI.box w.heap.size).has b → w.heap.size ≤ b ∧ b < ({ w with heap := w.heap.push (.map #[] 0) } : World).heap.size := by
    intro b h; injection h with h; subst h; simp
  have hmono := fun (b : Nat) (_ : Free A b) (hlt : b < w.heap.size) => hb.block b hlt
  have hfree := free_append (A := A) (ri := .box w.heap.size) (w := w) (fun b h => (hg b h).1)
  refine ⟨_, .map (some w.heap.size), _, _, A ++ [some (.box w.heap.size)], { w with heap := w.heap.push (.map #[] 0) }, h, .inl ?_, hR.grow hb hg ?_, hS.mono hmono hfree (fun _ _ h => get_append h), ?_, .of_below hb, .append (fun b h => (hg b h).1), none_append⟩
  · simp only [execOp, ho, Option.map_none, Instr.makeMap, Sem.run_bind, run_newObj, Result.andThen_ok, Sem.run_pure]
  · exact ⟨[], 0, push_new _ _, .nil⟩
  · refine .mp _ _ ?_
    rw [← hR.len]; simp

omit [Bad] in
omit DW in
/-- An entry put. -/
theorem find_put {w : World} {S : Nat → Prop} {K : IntKind} (n : Int) {y : D} {v : Value} (hy : Rep w S y v) {ents : List (Int × D)} {es : List MapEntry} (h : EntsR w S K ents es) : ∀ i, ∃ o, Instr.findNow (.int K) (.int K n) es i = some o ∧
    ((∃ j e, o = some (i + j, e.val) ∧ es[j]? = some e ∧ e.key = .int K n ∧ EntsR w S K (mput ents n y) (es.set j { e with key := .int K n, val := v })) ∨
     (o = none ∧ ∀ b, EntsR w S K (mput ents n y) (es ++ [{ key := .int K n, val := v, born := b }]))) := by
  induction h with
  | nil => exact fun i => ⟨none, rfl, .inr ⟨rfl, fun b => .cons n y _ [] [] rfl hy .nil⟩⟩
  | cons m x e ents es hk hv h ih =>
    intro i
    unfold Instr.findNow
    rw [hk]
    simp only [Instr.sameNow, if_true]
    by_cases hm : m = n
    · subst hm
      simp only [beq_self_eq_true]
      refine ⟨_, rfl, .inl ⟨0, e, rfl, rfl, hk, ?_⟩⟩
      simp only [mput, decide_true, List.set_cons_zero]
      exact .cons m y _ ents es rfl hy h
    · have e1 : (n == m) = false := by simpa using Ne.symm hm
      rw [e1]
      obtain ⟨o, g1, g2⟩ := ih (i + 1)
      refine ⟨o, g1, ?_⟩
      simp only [mput, decide_eq_false hm]
      rcases g2 with ⟨j, e', g3, g4, g5, g6⟩ | ⟨g3, g4⟩
      · exact .inl ⟨j + 1, e', by rw [g3]; congr 2; omega, by simpa using g4, g5, by simpa using .cons m x e _ _ hk hv g6⟩
      · exact .inr ⟨g3, fun b => by simpa using .cons m x e _ _ hk hv (g4 b)⟩

theorem gives_mapUpdate (hE : EnvOK E P) (hR : Roots w A F) (hS : Slots w A t a.tmps) (ty : TypeId) (x ix v : Operand) (ho : o.op = .mapUpdate ty x ix v) (h : opE E t F o k = some r) : GivesE P w A a o k r := by
  simp only [opE, ho] at h
  split at h
  case h_2 => simp at h
  rename_i i hi
  split at h
  case h_2 => simp at h
  rename_i kt et hd
  split at h
  case h_2 => simp at h
  rename_i ki hki
  split at h
  case h_2 => simp at h
  rename_i K hdk
  split at h
  case h_2 => simp at h
  rename_i s K' n y hx hix hvy
  split at h
  case h_2 => simp at h
  rename_i K2 ents c1 hroot c3
  split at h
  case h_2 => simp at h
  rename_i c2
  have c1 := of_decide_eq_true c1
  have c2 := of_decide_eq_true c2
  subst c1
  subst c2
  obtain ⟨_, _, h2, _⟩ := hE.ty _ _ hi
  rw [hd] at h2
  obtain ⟨_, _, hk2, _⟩ := hE.ty _ _ hki
  rw [hdk] at hk2
  have hv := val_rel hS x
  rw [hx] at hv
  generalize hex : a.eval x = u at hv
  obtain ⟨ri, r1, r2⟩ := hR.rel s _ (root_get hroot)
  cases hv with
  | mp _ g hA =>
  rw [hA] at r1
  injection r1 with r1; injection r1 with r1
  subst r1
  obtain ⟨es, clock, hg, hes⟩ := r2
  have hvv := val_rel hS v
  rw [hvy] at hvv
  have hyr : Rep w (Free A) y (a.eval v) := by
    cases hvv with
    | d _ _ h => exact h
  obtain ⟨o', f1, f2⟩ := find_put n hyr hes 0
  have hck : ∀ em w', (Instr.checkKey em 10000 kt (.int K2 n)).run P w' = .ok () w' := fun em w' => MapKept.run_checkKey hk2 (by show K2 = K2; rfl) em 9999
  have hlt : g < w.heap.size := (Array.getElem?_eq_some_iff.mp hg).1
  obtain ⟨es', clock', hrun, hes'⟩ : ∃ es' clock', (execOp a.eval o).run P w = .ok .skip { w with heap := w.heap.setIfInBounds g (.map es'.toArray clock') } ∧ EntsR w (Free A) K2 (mput ents n y) es' := by
    have hset : ∀ o2, (setObj g o2).run P w = .ok () { w with heap := w.heap.setIfInBounds g o2 } := fun o2 => by simp [setObj, Sem.run, hg]
    rcases f2 with ⟨j, e, rfl, f4, f5, f6⟩ | ⟨rfl, f4⟩
    · refine ⟨es.set j { e with key := .int K2 n, val := a.eval v }, clock, ?_, f6⟩
      have hsame : ∀ w', (Instr.keyThatStays (.int K2 n) (.int K2 n)).run P w' = .ok (.int K2 n) w' := fun w' => by
        simp [Instr.keyThatStays, Instr.sameBits]
      have hj : es.toArray[0 + j]? = some e := by simpa using f4
      simp only [execOp, ho, hex, eval_lit hS hix, Instr.mapUpdate, Sem.run_bind, run_underlying h2, Result.andThen_ok, MapKept.run_getObj_map hg, hck, Instr.findKey, run_underlying hk2, f1, Sem.run_pure, hj, Option.map_some, Option.getD_some, f5, hsame, hset]
      congr 2
      congr 1
      congr 1
      apply Array.ext'
      simp only [Nat.zero_add, Array.toList_modify, List.toList_toArray]
      exact modify_set _ _ _ f4
    · refine ⟨es ++ [{ key := .int K2 n, val := a.eval v, born := clock }], clock + 1, ?_, f4 clock⟩
      simp only [execOp, ho, hex, eval_lit hS hix, Instr.mapUpdate, Sem.run_bind, run_underlying h2, Result.andThen_ok, MapKept.run_getObj_map hg, hck, Instr.findKey, run_underlying hk2, f1, Sem.run_pure, hset]
      congr 2
      congr 1
      congr 1
      apply Array.ext'
      simp
  have hother : ∀ b, b ≠ g → (w.heap.setIfInBounds g (.map es'.toArray clock'))[b]? = w.heap[b]? := fun b hb => by
    rw [Array.getElem?_setIfInBounds_ne (Ne.symm hb)]
  have hAfree : ∀ b, Free A b → b < w.heap.size → (w.heap.setIfInBounds g (.map es'.toArray clock'))[b]? = w.heap[b]? :=
    fun b hf _ => hother b (fun e => hf.1 ⟨s, _, hA, by rw [e]; rfl⟩)
  refine ⟨_, _, _, _, A, _, h, .inr ⟨hrun, rfl⟩, ?_, hS.mono hAfree (fun _ h _ => h) (fun _ _ h => h), .dead _, ⟨fun _ => Nat.le_refl _, rfl, rfl, rfl, by simp, fun b hb hf => hother b (fun e => hf ⟨s, _, hA, by rw [e]; rfl⟩)⟩, .refl _ _, fun _ h => h⟩
  refine hR.write (root_get hroot) hA rfl (by simp) hother ?_
  exact ⟨es', clock', by simp [hlt], hes'.mono hAfree (fun _ h _ => h)⟩

theorem gives_clear (hE : EnvOK E P) (hz : ∀ t i, look E.tys t = some i → i.zero.cells.size = i.size) (hR : Roots w A F) (hS : Slots w A t a.tmps) (c : Call) (ho : o.op = .call c) {x : Operand} {ty : TypeId} (hc : c.callee = .builtin .clear) (hx : c.args.toList = [x]) (hty : c.argTypes.toList = [ty])
    (h : opE E t F o k = some r) : GivesE P w A a o k r := by
  simp only [opE, ho, hc, hx, hty] at h
  have hargs : c.args = #[x] := by apply Array.ext'; simpa using hx
  have htys : c.argTypes = #[ty] := by apply Array.ext'; simpa using hty
  split at h
  case h_2 => simp at h
  rename_i i hi
  split at h
  case h_2 => simp at h
  rename_i e hd
  split at h
  case h_2 => simp at h
  rename_i q s n hq hvx
  split at h
  case h_2 => simp at h
  rename_i e2 es rows z hroot hzz
  split at h
  case h_2 => simp at h
  rename_i c1 c2 c3
  have : e = e2 := Nat.eq_of_beq_eq_true c1
  subst this
  have hzl : z.length = es := Nat.eq_of_beq_eq_true c2
  obtain ⟨_, _, h2, _⟩ := hE.ty _ _ hi
  rw [hd] at h2
  obtain ⟨tq, g1, g2, g3, g4, g5⟩ := hE.ty _ _ hq
  have hzr := toDs_rep hzz (zeros_rel w A q.zero)
  have hzs : q.zero.cells.size = es := by have := hzr.1; simp at this; omega
  obtain ⟨ri, r1, r2⟩ := hR.rel s _ (root_get hroot)
  have hv := val_rel hS x
  rw [hvx] at hv
  generalize hex : a.eval x = ux at hv
  cases hv with
  | tl _ _ g m cap es' e3 hA hnm hmc =>
  rw [hA] at r1
  injection r1 with r1; injection r1 with r1
  subst r1
  obtain ⟨rfl, rfl, hes, hl, xs, how, hrep⟩ := r2
  rcases how.2 with ⟨he, _⟩ | ⟨g', cap', cur, he, _, ⟨fz, hh, hmk⟩, hnc, hcm, hcs, htake⟩
  · simp at he
  simp only [Value.slice.injEq, Option.some.injEq, Addr.mk.injEq, and_true, true_and] at he
  obtain ⟨rfl, rfl, rfl⟩ := he
  obtain ⟨d, hd'⟩ : ∃ d, rows.length - n = d + 1 := ⟨rows.length - n - 1, by omega⟩
  have hzc : (Builtin.zeroCells q.zero.cells (rows.length - n)).toList = (List.replicate (rows.length - n) q.zero.cells.toList).flatten := made_flat q.zero.cells (by omega) _
  have hzlen : ((List.replicate (rows.length - n) q.zero.cells.toList).flatten).length = (rows.length - n) * es := by
    rw [flat_len _ (es := es) (fun row h => by rw [List.eq_of_mem_replicate h]; simpa using hzs)]; simp
  have hone : ∀ u ∈ (List.replicate (rows.length - n) q.zero.cells.toList).flatten, u.oneCell' = true := repL_one (rep_flat hzr _)
  have hm2 : rows.length * es ≤ cap * es := Nat.mul_le_mul_right _ hnc
  have hsum : n * es + (rows.length - n) * es = rows.length * es := by rw [← Nat.add_mul]; congr 1; omega
  have hst := run_storeB P g (n * es) e fz (List.replicate (rows.length - n) q.zero.cells.toList).flatten 0 cur w hh hmk (by omega) hone
  simp only [Nat.add_zero, hzlen, hsum] at hst
  have hrun : (execOp a.eval o).run P w = .ok (.value (.tuple #[])) (w.setRow g (cur.toList.take (n * es) ++ (List.replicate (rows.length - n) q.zero.cells.toList).flatten ++ cur.toList.drop (rows.length * es)).toArray) := by
    have hzv : (zeroValue e).run P w = .ok q.zero w := by simp [zeroValue, typeInfo, g1, g5]
    simp only [execOp, ho, Sem.run_bind, resolve, hc, hargs, htys]
    rw [hd'] at hzc
    simp [hex, invoke, builtin, Builtin.clear_, run_underlying h2, hd', hzv, hzc]
    rw [← hd', hst]
    simp
  have hAfree : ∀ b, Free A b → b < w.heap.size → (w.setRow g (cur.toList.take (n * es) ++ (List.replicate (rows.length - n) q.zero.cells.toList).flatten ++ cur.toList.drop (rows.length * es)).toArray).heap[b]? = w.heap[b]? :=
    fun b hf _ => setRow_other w g b _ (fun e => hf.1 ⟨s, _, hA, by rw [e]; rfl⟩)
  refine ⟨_, _, _, _, A, _, h, .inl hrun, ?_, hS.mono hAfree (fun _ h _ => h) (fun _ _ h => h), .tup [] #[] rfl (fun i c v h => by simp at h), setRow_step hA rfl _, .refl _ _, fun _ h => h⟩
  have hn0 : n ≤ rows.length := by omega
  refine hR.write (root_get hroot) hA rfl (by simp [World.setRow]) (fun b hb => setRow_other w g b _ hb) ?_
  have hln : (rows.take n ++ List.replicate (rows.length - n) z).length = rows.length := by simp; omega
  refine ⟨rfl, rfl, hes, fun row hrow => ?_, xs.take (n * es) ++ (List.replicate (rows.length - n) q.zero.cells.toList).flatten, ?_, ?_⟩
  · rcases List.mem_append.mp hrow with h1 | h1
    · exact hl row (List.mem_of_mem_take h1)
    · rw [List.eq_of_mem_replicate h1]; exact hzl
  · have hxl : xs.length = rows.length * es := how.1
    rw [hln]
    refine ⟨by rw [List.length_append, List.length_take, hzlen, hxl]; omega, .inr ⟨g, cap, _, rfl, Nat.zero_le _, ⟨fz, setRow_heap w g cur _ e _ hh, hmk.of (by rw [List.size_toArray, List.length_append, List.length_append, List.length_take, List.length_drop, hzlen, Array.length_toList, hcs]; omega)⟩, hnc, hcm, by rw [List.size_toArray, List.length_append, List.length_append, List.length_take, List.length_drop, hzlen, Array.length_toList, hcs]; omega, ?_⟩⟩
    have hx1 : xs.take (n * es) = cur.toList.take (n * es) := by rw [← htake, List.take_take]; congr 1; omega
    have hll : (cur.toList.take (n * es) ++ (List.replicate (rows.length - n) q.zero.cells.toList).flatten).length = rows.length * es := by rw [List.length_append, List.length_take, hzlen, Array.length_toList, hcs]; omega
    rw [List.toList_toArray, hx1, List.take_append_of_le_length (by rw [hll]; exact Nat.le_refl _), List.take_of_length_le (by rw [hll]; exact Nat.le_refl _)]
  · rw [List.flatten_append, flat_take rows hl]
    exact ((repL_take hrep _).append (rep_flat hzr _)).mono hAfree (fun _ h _ => h)

omit [Bad] in
omit DW in
theorem byteRows_len (s : ByteArray) : (byteRowsOf s).length = s.size := by
  unfold byteRowsOf
  rw [List.length_map, Array.length_toList]; rfl
omit [Bad] in
omit DW in
theorem cvt_flat (l : List UInt8) : (l.map fun b => [D.lit (.int .u8 b.toNat)]).flatten = l.map fun b => D.lit (.int .u8 b.toNat) := by
  induction l with
  | nil => rfl
  | cons b l ih => rw [List.map_cons, List.flatten_cons, ih]; rfl
omit [Bad] in
omit DW in
theorem byteRows_rep (w : World) (S : Nat → Prop) (s : ByteArray) : RepL w S (byteRowsOf s).flatten (s.data.toList.map fun b => Value.int .u8 b.toNat) := by
  unfold byteRowsOf
  rw [cvt_flat]
  refine ⟨by simp, fun i x v h1 h2 => ?_⟩
  rw [List.getElem?_map, Option.map_eq_some_iff] at h1 h2
  obtain ⟨b, hb, rfl⟩ := h1
  obtain ⟨b', hb', rfl⟩ := h2
  rw [hb] at hb'
  injection hb' with hb'
  subst hb'
  exact .lit _ rfl
/-- What '[]byte(s)' comes to on the machine. -/
theorem cvt_facts (hE : EnvOK E P) (hS : Slots w A t a.tmps) {src dst : TypeId} {x : Operand} (ho : o.op = .convert src dst x) {Q : Type} {q : Q} {kk : TypeId → List (List D) → Option Q} (h : cvtB E t src dst x kk = some q) :
    ∃ e s, kk e (byteRowsOf s) = some q ∧ s.size ≤ maxLen ∧ e = U8 ∧
      (execOp a.eval o).run P w = .ok (.value (.slice (some ⟨w.heap.size, 0, none⟩) s.size (grownCap w s.size 0 e))) { w.drew with heap := w.drew.heap.push (.cells (bytesRow s (grownCap w s.size 0 e)) e ((bytesRow s (grownCap w s.size 0 e)).size, (bytesRow s (grownCap w s.size 0 e)).size + 1)) } := by
  unfold cvtB at h
  split at h
  case h_2 => simp at h
  rename_i i j s h1 h2 h3
  split at h
  case h_2 => simp at h
  rename_i e h4 h5
  split at h
  case h_2 => simp at h
  rename_i q h6
  split at h
  case h_2 => simp at h
  rename_i h7 h8 h9
  have hsm : s.size * 1 ≤ 140737488355328 := Nat.ble_eq.mp h9
  obtain ⟨_, _, k1, _⟩ := hE.ty _ _ h1
  obtain ⟨_, _, k2, _⟩ := hE.ty _ _ h2
  obtain ⟨_, _, k3, _⟩ := hE.ty _ _ h6
  rw [h4] at k1
  rw [h5] at k2
  rw [h7] at k3
  refine ⟨e, s, h, by unfold maxLen; omega, Nat.eq_of_beq_eq_true h8, ?_⟩
  have hrun := run_bytes_of_string (P := P) w src dst e s k1 k2 k3
  have he := eval_lit hS h3
  simp only [execOp, ho, Sem.run_bind, he, hrun, Result.andThen_ok, Sem.run_pure]
  rfl
omit [Bad] in
omit DW in
theorem bytesRow_size (s : ByteArray) (cap : Nat) (h : s.size ≤ cap) : (bytesRow s cap).size = cap * 1 := by
  unfold bytesRow
  rw [Array.size_append, Array.size_map, Array.size_replicate]
  show s.size + (cap - s.size) = _
  omega
omit [Bad] in
omit DW in
theorem bytesRow_take (s : ByteArray) (cap : Nat) : (bytesRow s cap).toList.take ((byteRowsOf s).length * 1) = s.data.toList.map fun b => Value.int .u8 b.toNat := by
  rw [byteRows_len, Nat.mul_one]
  unfold bytesRow
  rw [Array.toList_append, Array.toList_map]
  exact List.take_left' (by rw [List.length_map, Array.length_toList]; rfl)
omit [Bad] in
omit DW in
theorem byteRows_one (s : ByteArray) : ∀ row ∈ byteRowsOf s, row.length = 1 := by
  intro row h
  unfold byteRowsOf at h
  rw [List.mem_map] at h
  obtain ⟨b, _, rfl⟩ := h
  rfl

theorem gives_cvt (hE : EnvOK E P) (hR : Roots w A F) (hS : Slots w A t a.tmps) (src dst : TypeId) (x : Operand) (ho : o.op = .convert src dst x) (h : opE E t F o k = some r) : GivesE P w A a o k r := by
  simp only [opE, ho] at h
  obtain ⟨e, s, h1, h2, hu8, hrun⟩ := cvt_facts (w := w) (A := A) (a := a) (P := P) hE hS ho h
  have hge := grownCap_ge w s.size 0 e
  have hle := grownCap_le_maxLen w s.size 0 e h2
  have hsz := bytesRow_size s _ hge
  refine new_row (e := e) (es := 1) (rows := byteRowsOf s) (xs := s.data.toList.map fun b => Value.int .u8 b.toNat) (cap := grownCap w s.size 0 e) (cells := bytesRow s (grownCap w s.size 0 e)) (w1 := w.drew) (fz := ((bytesRow s (grownCap w s.size 0 e)).size, (bytesRow s (grownCap w s.size 0 e)).size + 1)) hR hS (.inr ⟨Nat.le_refl _, hu8⟩) Nat.one_pos
    (byteRows_one s) (byteRows_rep _ _ _) ⟨fun _ => Nat.le_succ _, rfl, rfl, rfl, Nat.le_refl _, fun _ _ => rfl⟩ rfl (by rw [byteRows_len]; exact hge) hle hsz (bytesRow_take s _) h1 ?_
  rw [hrun, byteRows_len]

theorem opE_sound (hE : EnvOK E P) (hz : ∀ t i, look E.tys t = some i → i.zero.cells.size = i.size) (hR : Roots w A F) (hS : Slots w A t a.tmps) (h : opE E t F o k = some r) : GivesE P w A a o k r := by
  have h0 := h
  unfold opE at h
  split at h
  · rename_i ho; exact gives_alloc hE hR hS _ ho h0
  · rename_i ho; exact gives_box hE hR hS _ _ ho h0
  · rename_i ho; exact gives_make hE hR hS _ _ _ ho h0
  · rename_i ho; exact gives_store hE hR hS _ _ _ ho h0
  · rename_i c ho
    split at h
    · rename_i hc hx hty; exact gives_append hE hz hR hS _ ho hc hx hty h0
    · rename_i hc hx hty; exact gives_clear hE hz hR hS _ ho hc hx hty h0
    · simp at h
  · rename_i ho; exact gives_cut hE hR hS _ _ _ _ _ ho h0
  · rename_i ho; exact gives_makeMap hE hR hS _ ho h0
  · rename_i ho; exact gives_mapUpdate hE hR hS _ _ _ _ ho h0
  · rename_i ho; exact gives_buildSlice hE hz hR hS _ _ _ ho h0
  · rename_i ho; exact gives_bldN hE hR hS _ _ ho h
  · rename_i ho; exact gives_cvt hE hR hS _ _ _ ho h0
  · rename_i ho; exact gives_nilS hE hR hS (.inl ho) h
  · rename_i ho; exact gives_nilS hE hR hS (.inr ho) h
  · simp at h

end
end Go.Proofs.YtjnhclnnobejgaaE

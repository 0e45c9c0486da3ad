/- The engine, fourth part: the operations that leave memory alone, one by one; conditions: the tables are the program's own. -/
import Derived.Test.YtjnhclnnobejgaaEc
import Derived.Laws.BytesString
import Derived.Laws.Small
import Derived.Laws.Tables
import Derived.MapKept
namespace Go.Proofs.YtjnhclnnobejgaaE
open Go.RowKit
set_option linter.unusedVariables false
variable [DW : Drw]
variable [Bad]
set_option linter.unusedSimpArgs false

section
variable {R : Type} {E : Env} {P : Program} {w : World} {A : List (Option RI)} {F : Fo} {t : List V} {a : Act} {k : V → Option R} {r : R}

/-- What the interpreter hands on, and that the machine yields it. -/
def Gives (P : Program) (w : World) (A : List (Option RI)) (a : Act) (op : Op) (k : V → Option R) (r : R) : Prop :=
  ∃ v u, k v = some r ∧ RelV w A v u ∧ Yields P w a op u

theorem gives_move (hS : Slots w A t a.tmps) (x : Operand) (h : k (val t x) = some r) : Gives P w A a (.move x) k r :=
  ⟨_, _, h, val_rel hS x, fun w' o hb ho => by simp only [execOp, ho]; rfl⟩
theorem gives_assign (hS : Slots w A t a.tmps) (x : Operand) (h : k (val t x) = some r) : Gives P w A a (.assign x) k r :=
  ⟨_, _, h, val_rel hS x, fun w' o hb ho => by simp only [execOp, ho]; rfl⟩

omit DW in
theorem eval_lit (hS : Slots w A t a.tmps) {x : Operand} {u : Value} (h : val t x = .d (.lit u)) : a.eval x = u := by
  have := val_rel hS x
  rw [h] at this
  exact this.lit_inv

theorem gives_pick (hS : Slots w A t a.tmps) (c x y : Operand) (h : opQ E t F (.pick c x y) k = some r) : Gives P w A a (.pick c x y) k r := by
  simp only [opQ] at h
  split at h
  · rename_i q hc
    have hq := eval_lit hS hc
    split at h
    · exact ⟨_, _, h, val_rel hS x, fun w' o hb ho => by simp only [execOp, ho, hq]; rfl⟩
    · exact ⟨_, _, h, val_rel hS y, fun w' o hb ho => by simp only [execOp, ho, hq]; rfl⟩
  · simp at h

omit DW in
/-- What a slice in a row of such holds. -/
theorem ns_own (hR : Roots w A F) {rr i : Nat} {v u : Value} {T T' : NT} {n n' : Nat} {us : List Value} {rows rws : List (List D)} {row : List D} (hA : A[rr]? = some (some (.nst v T n us))) (hi : i < n) (hu : us[i]? = some u)
    (hroot : root F rr = some (.nst T' n' rows)) (hrow : rows[i]? = some row) (hc : row[T'.c2]? = some (.arr rws)) : T' = T ∧ 0 < T.es2 ∧ NOwn w (Free A) T.e2 T.es2 rws u := by
  obtain ⟨ri, h1, h2⟩ := hR.rel rr _ (root_get hroot)
  rw [hA] at h1
  injection h1 with h1; injection h1 with h1
  subst h1
  obtain ⟨rfl, rfl, hn⟩ := h2
  obtain ⟨xs, how, hcs⟩ := hn.rep
  obtain ⟨⟨rws', u', u2, c1, c2, c3, c4⟩, c5⟩ := hcs i row hrow
  rw [hc] at c1
  injection c1 with c1
  subst c1
  rw [hu] at c2
  injection c2 with c2
  subst c2
  rcases c4 with ⟨_, _, _, he0, c4⟩ | ⟨h0, _⟩
  · injection he0 with he0
    subst he0
    exact ⟨rfl, hn.es2, c4⟩
  · omega

theorem gives_load (hE : EnvOK E P) (hR : Roots w A F) (hS : Slots w A t a.tmps) (ty : TypeId) (x : Operand) (h : opQ E t F (.load ty x) k = some r) : Gives P w A a (.load ty x) k r := by
  simp only [opQ] at h
  split at h
  · simp at h
  · rename_i i hi
    rw [behindK_eq] at h
    split at h
    case h_2 => simp at h
    · rename_i cs hb
      split at h
      · rename_i v hs
        obtain ⟨b, o, vs, hp, hrel, hc⟩ := behind_rel hR (val_rel hS x) hb
        obtain ⟨h1, h2, h3⟩ := shapeV_rel hi (hrel.take i.size) hs
        refine ⟨_, _, h, h1, fun w' o' hb ho => ?_⟩
        have hl := load_run (w := w') hE hi (b := b) (o := o) (vs := vs.take i.size) (fun j v hj => by
          rw [List.getElem?_take] at hj
          split at hj
          · exact below_lt hb (hc j v hj)
          · simp at hj) h2 h3
        simp only [execOp, ho, hp, Sem.run_bind, hl, Result.andThen_ok, Sem.run_pure]
      · simp at h

theorem gives_nil (hS : Slots w A t a.tmps) (x : Operand) (h : opQ E t F (.nilCheck x) k = some r) : Gives P w A a (.nilCheck x) k r := by
  simp only [opQ] at h
  have hv := val_rel hS x
  split at h
  all_goals first
    | (simp at h; done)
    | (rename_i hx
       rw [hx] at hv
       generalize he : a.eval x = u at hv
       refine ⟨_, u, h, hv, fun w' o hb ho => ?_⟩
       cases hv <;> simp only [execOp, ho, he] <;> rfl)

omit [Bad] in
omit DW in
theorem equal_bool {P : Program} {ty : TypeId} (h2 : P.underlying ty = some .bool) (m n : Bool) (w' : World) : (Op.equal ty (.bool m) (.bool n)).run P w' = .ok (m == n) w' := by
  show (Op.equalIn (9999 + 1) ty (.bool m) (.bool n)).run P w' = _
  rw [Op.equalIn]
  simp only [Sem.run_bind, run_underlying h2, Result.andThen_ok, Sem.run_pure]

omit [Bad] in
omit DW in
theorem part_lit {P : Program} {t : TypeId} {vs : Array Value} {off : Nat} {v : Value} {w' : World} (h : vs[off]? = some v) (d : TypeDesc) (hu : P.underlying t = some d) (hd : isAggD d = false) : (part t vs off).run P w' = .ok v w' := by
  have hag : (isAgg t).run P w' = .ok false w' := by
    unfold isAgg
    simp only [Sem.run_bind, run_underlying hu, Result.andThen_ok]
    cases d <;> first | rfl | simp [isAggD] at hd
  unfold part
  simp only [Sem.run_bind, hag, Result.andThen_ok, Bool.false_eq_true, if_false, h, Sem.run_pure]
omit DW in
theorem eqCs_run {P : Program} {w w' : World} {A : List (Option RI)} {xs ys : List V} {us vs : Array Value} (hx : RelL w A xs us.toList) (hy : RelL w A ys vs.toList) (d : Nat) : ∀ (l : List (Nat × Nat)) (fs : List Field) (q : Bool), eqCs xs ys l = some q → eqFits P fs l = true →
    (Op.eqFields (d + 1) us vs fs).run P w' = .ok q w'
  | [], [], q, h, _ => by simp [eqCs] at h; subst h; simp [Op.eqFields]
  | [], f :: fs, q, h, hf => by simp [eqFits] at hf
  | (o, n) :: l, [], q, h, hf => by simp [eqFits] at hf
  | (o, n) :: l, f :: fs, q, h, hf => by
    simp only [eqFits, Bool.and_eq_true, bne_iff_ne, beq_iff_eq] at hf
    obtain ⟨h1, h2, h3, h4⟩ := hf
    simp only [eqCs] at h
    split at h
    · simp at h
    rename_i r hr
    have ih := eqCs_run (P := P) (w' := w') hx hy d l fs r hr h4
    subst h2
    have cell : ∀ {zs : List V} {ws : Array Value} (hz : RelL w A zs ws.toList) {u : Value} (hc : zs[f.offset]? = some (.d (.lit u))), ws[f.offset]? = some u := by
      intro zs ws hz u hc
      have hlt : f.offset < zs.length := (List.getElem?_eq_some_iff.mp hc).1
      have hlt2 : f.offset < ws.toList.length := by rw [← hz.1]; exact hlt
      have := (hz.2 f.offset _ _ hc (List.getElem?_eq_getElem hlt2)).lit_inv
      have hlt3 : f.offset < ws.size := by simpa using hlt2
      rw [Array.getElem?_eq_getElem hlt3]
      simpa using this
    have fin : ∀ {u v : Value} {b : Bool} (dd : TypeDesc) (hu : P.underlying f.type = some dd) (ha : isAggD dd = false) (g1 : xs[f.offset]? = some (.d (.lit u))) (g2 : ys[f.offset]? = some (.d (.lit v))) (he : (Op.equalIn (d + 1) f.type u v).run P w' = .ok b w'),
        (Op.eqFields (d + 1) us vs (f :: fs)).run P w' = .ok (b && r) w' := by
      intro u v b dd hu ha g1 g2 he
      rw [Op.eqFields]
      simp only [if_pos h1, Sem.run_bind, part_lit (cell hx g1) dd hu ha, part_lit (cell hy g2) dd hu ha, he, Result.andThen_ok]
      cases b
      · simp
      · simpa using ih
    split at h
    · rename_i k1 a k2 b g1 g2
      split at h
      case h_2 => simp at h
      rename_i hk
      have hk := of_decide_eq_true hk
      subst hk
      simp only [Option.some.injEq] at h
      subst h
      split at h3
      · rename_i k' hu _
        exact fin _ hu rfl g1 g2 (run_equalIn_int w' d f.type _ _ a b hu)
      all_goals simp_all
    · rename_i a b g1 g2
      simp only [Option.some.injEq] at h
      subst h
      split at h3
      case h_2 => rename_i hu _; exact fin _ hu rfl g1 g2 (run_equalIn_bool w' d f.type a b hu)
      all_goals simp_all
    · rename_i a b g1 g2
      simp only [Option.some.injEq] at h
      subst h
      split at h3
      case h_3 => rename_i hu _; exact fin _ hu rfl g1 g2 (run_equalIn_string w' d f.type a b hu)
      all_goals simp_all
    · simp at h

theorem gives_bin (hE : EnvOK E P) (hS : Slots w A t a.tmps) (b : BinOp) (ty : TypeId) (x y : Operand) (ty' : TypeId) (h : opQ E t F (.binOp b ty x y ty') k = some r) :
    Gives P w A a (.binOp b ty x y ty') k r := by
  simp only [opQ] at h
  split at h
  · rename_i j m j' n hx hy
    split at h
    · rename_i v hv
      split at h
      case h_2 => simp at h
      rename_i hone
      refine ⟨_, _, h, relV_lit _ _ v hone, fun w' o hb ho => ?_⟩
      have e : (eqGuard b ty x y (.int j m) (.int j' n)).run P w' = .ok () w' := by
        unfold eqGuard
        cases b <;> rfl
      simp only [execOp, ho, eval_lit hS hx, eval_lit hS hy, Sem.run_bind, e, Result.andThen_ok, runPure_run hv, Sem.run_pure]
    · simp at h
  · rename_i m n hx hy
    split at h
    · rename_i v hv
      split at h
      case h_2 => simp at h
      rename_i hone
      refine ⟨_, _, h, relV_lit _ _ v hone, fun w' o hb ho => ?_⟩
      have e : (eqGuard b ty x y (.string m) (.string n)).run P w' = .ok () w' := by
        unfold eqGuard
        cases b <;> rfl
      simp only [execOp, ho, eval_lit hS hx, eval_lit hS hy, Sem.run_bind, e, Result.andThen_ok, runPure_run hv, Sem.run_pure]
    · simp at h
  · rename_i m n hx hy
    split at h
    · rename_i i hi
      obtain ⟨ti, h1, h2, _⟩ := hE.ty _ _ hi
      split at h
      · rename_i hd
        refine ⟨_, _, h, relV_lit _ _ _ rfl, fun w' o hb ho => ?_⟩
        rw [hd] at h2
        have e : (Op.equal ty (.bool m) (.bool n)).run P w' = .ok (m == n) w' := equal_bool h2 m n w'
        simp only [execOp, ho, eval_lit hS hx, eval_lit hS hy, Sem.run_bind, eqGuard, binOp]
        simp [e]
      · rename_i hd
        refine ⟨_, _, h, relV_lit _ _ _ rfl, fun w' o hb ho => ?_⟩
        rw [hd] at h2
        have e : (Op.equal ty (.bool m) (.bool n)).run P w' = .ok (m == n) w' := equal_bool h2 m n w'
        simp only [execOp, ho, eval_lit hS hx, eval_lit hS hy, Sem.run_bind, eqGuard, binOp]
        simp [e]
      · simp at h
    · simp at h
  · rename_i xs ys hx hy
    split at h
    case h_2 => simp at h
    rename_i l hl
    split at h
    case h_2 => simp at h
    rename_i q hq
    obtain ⟨e1, e2, fs, e3, e4⟩ := hE.eqs _ _ hl
    have hvx := val_rel hS x
    have hvy := val_rel hS y
    rw [hx] at hvx
    rw [hy] at hvy
    generalize hux : a.eval x = ux at hvx
    generalize huy : a.eval y = uy at hvy
    cases hvx with
    | agg _ us hl1 hc1 =>
      cases hvy with
      | agg _ vs hl2 hc2 =>
        have hrx : RelL w A xs us.toList := ⟨by simpa using hl1, fun j c v h1 h2 => hc1 j c v h1 (by simpa using h2)⟩
        have hry : RelL w A ys vs.toList := ⟨by simpa using hl2, fun j c v h1 h2 => hc2 j c v h1 (by simpa using h2)⟩
        have hfo : P.fieldsOf ty = fs := by simp [Program.fieldsOf, e3]
        have he : ∀ w' : World, (Op.equalIn 10000 ty (.agg us) (.agg vs)).run P w' = .ok q w' := fun w' => by
          rw [run_equalIn_agg w' 9999 ty us vs (by rw [hfo]; exact e3) e1, hfo]
          exact eqCs_run hrx hry 9998 l fs.toList q hq e4
        split at h
        · refine ⟨_, _, h, relV_lit _ _ _ rfl, fun w' o hb ho => ?_⟩
          simp only [execOp, ho, hux, huy, Sem.run_bind, run_eqGuard_agg w' _ _ _ _ _ _ e2, run_eql_struct, he, Result.andThen_ok, Sem.run_pure]
        · refine ⟨_, _, h, relV_lit _ _ _ rfl, fun w' o hb ho => ?_⟩
          simp only [execOp, ho, hux, huy, Sem.run_bind, run_eqGuard_agg w' _ _ _ _ _ _ e2, run_neq_struct, he, Result.andThen_ok, Sem.run_pure]
        · simp at h
  · simp at h

theorem gives_un (hS : Slots w A t a.tmps) (u : UnOp) (ty : TypeId) (x : Operand) (h : opQ E t F (.unOp u ty x) k = some r) : Gives P w A a (.unOp u ty x) k r := by
  simp only [opQ] at h
  split at h
  · rename_i j m hx
    split at h
    · rename_i v hv
      split at h
      case h_2 => simp at h
      rename_i hone
      exact ⟨_, _, h, relV_lit _ _ v hone, fun w' o hb ho => by simp only [execOp, ho, eval_lit hS hx, Sem.run_bind, runPure_run hv, Result.andThen_ok, Sem.run_pure]⟩
    · simp at h
  · rename_i m hx
    split at h
    · rename_i v hv
      split at h
      case h_2 => simp at h
      rename_i hone
      exact ⟨_, _, h, relV_lit _ _ v hone, fun w' o hb ho => by simp only [execOp, ho, eval_lit hS hx, Sem.run_bind, runPure_run hv, Result.andThen_ok, Sem.run_pure]⟩
    · simp at h
  · simp at h

omit [Bad] in
omit DW in
theorem flat_drop {α : Type} {es : Nat} : ∀ (rows : List (List α)), (∀ row ∈ rows, row.length = es) → ∀ m, (rows.drop m).flatten = rows.flatten.drop (m * es)
  | [], _, m => by simp
  | r :: rows, hl, 0 => by simp
  | r :: rows, hl, m + 1 => by
    rw [List.drop_succ_cons, flat_drop rows (fun x hx => hl x (by simp [hx])) m, List.flatten_cons, Nat.succ_mul, Nat.add_comm, ← List.drop_drop]
    congr 1
    have : r.length = es := hl r (by simp)
    rw [← this]; simp

omit DW in
theorem rows_cells (hR : Roots w A F) {v : V} {u : Value} (hv : RelV w A v u) {rows : List (List D)} (hr : rowsV F v = some rows) :
    rows = [] ∧ (∃ p cap, u = .slice p 0 cap ∧ (p = none → cap = 0)) ∨ ∃ (b o es cap : Nat) (xs : List Value), u = .slice (some ⟨b, o, none⟩) rows.length cap ∧ 0 < es ∧ (∀ row ∈ rows, row.length = es) ∧ rows.length ≤ maxLen ∧
      RepL w (Free A) rows.flatten xs ∧ ∀ j x, xs[j]? = some x → w.cell? ⟨b, o + j, none⟩ = some x := by
  cases hv with
  | d x _ h =>
    cases h with
    | lit v hv => simp [rowsV] at hr
    | empty p cap hp => simp only [rowsV, Option.some.injEq] at hr; subst hr; exact .inl ⟨rfl, p, cap, rfl, hp⟩
    | arr rows' b o es cap g hS hes hl hmax hcap hcell hrep =>
      simp only [rowsV, Option.some.injEq] at hr
      subst hr
      refine .inr ⟨b, o, es, cap, (List.range (rows'.length * es)).map g, rfl, hes, hl, hmax, ⟨by simp [flat_len rows' hl], fun i x y h1 h2 => ?_⟩, fun j x hj => ?_⟩
      · rw [List.getElem?_map, Option.map_eq_some_iff] at h2
        obtain ⟨i', h2, rfl⟩ := h2
        have hlt := (List.getElem?_eq_some_iff.mp h2).1
        rw [List.getElem?_range (by simpa using hlt)] at h2
        injection h2 with h2
        subst h2
        exact hrep i x h1
      · rw [List.getElem?_map, Option.map_eq_some_iff] at hj
        obtain ⟨i', h2, rfl⟩ := hj
        have hlt := (List.getElem?_eq_some_iff.mp h2).1
        rw [List.getElem?_range (by simpa using hlt)] at h2
        injection h2 with h2
        subst h2
        exact hcell j (by simpa using hlt)
  | sl r v e es hA u hv' =>
    simp only [rowsV] at hr
    split at hr
    · rename_i e1 es1 rows' hroot
      injection hr with hr
      subst hr
      obtain ⟨ri, g1, g2⟩ := hR.rel r _ (root_get hroot)
      rw [hA] at g1
      injection g1 with g1; injection g1 with g1
      subst g1
      obtain ⟨rfl, rfl, hes, hl, xs, how, hrep⟩ := g2
      rcases how.2 with ⟨rfl, hz⟩ | ⟨g, cap, cur, rfl, _, ⟨fz, hh, hmk⟩, hnc, hcm, hcs, htake⟩
      · obtain ⟨_, rfl | ⟨_, p, rfl⟩⟩ := hv'
        · exact .inl ⟨List.eq_nil_of_length_eq_zero hz, none, 0, rfl, fun _ => rfl⟩
        · exact .inl ⟨List.eq_nil_of_length_eq_zero hz, p, 0, rfl, fun _ => rfl⟩
      · obtain ⟨_, rfl | ⟨hc, _⟩⟩ := hv'
        case inr => cases hc
        refine .inr ⟨g, 0, es1, cap, xs, rfl, hes, hl, Nat.le_trans hnc hcm, hrep, fun j x hj => ?_⟩
        have := how.cells (g := g) rfl j x hj
        rw [add_at] at this
        exact this
    · simp at hr
  | agg cs vs hn h => simp [rowsV] at hr
  | tup cs vs hn h => simp [rowsV] at hr
  | bp r j g h => simp [rowsV] at hr
  | ptr r i j g n cap es e h => simp [rowsV] at hr
  | rp rows i j b o es cap h hes => simp [rowsV] at hr
  | clo f cs vs hn h => simp [rowsV] at hr
  | tl r i g n cap es e hA hi hc =>
    simp only [rowsV] at hr
    split at hr
    · rename_i e1 es1 rows' hroot
      injection hr with hr
      subst hr
      obtain ⟨ri, g1, g2⟩ := hR.rel r _ (root_get hroot)
      rw [hA] at g1
      injection g1 with g1; injection g1 with g1
      subst g1
      obtain ⟨rfl, rfl, hes, hl, xs, how, hrep⟩ := g2
      rcases how.2 with ⟨he, _⟩ | ⟨g', cap', cur, he, _, ⟨fz, hh, hmk⟩, hnc, hcm, hcs, htake⟩
      · simp at he
      simp only [Value.slice.injEq, Option.some.injEq, Addr.mk.injEq, and_true, true_and] at he
      obtain ⟨rfl, rfl, rfl⟩ := he
      refine .inr ⟨g, i * es1, es1, cap - i, xs.drop (i * es1), by rw [List.length_drop], hes, fun row hrow => hl row (List.mem_of_mem_drop hrow), by rw [List.length_drop]; omega, ?_, fun j x hj => ?_⟩
      · rw [flat_drop rows' hl]
        refine ⟨by rw [List.length_drop, List.length_drop, hrep.1], fun j x y h1 h2 => ?_⟩
        rw [List.getElem?_drop] at h1 h2
        exact hrep.2 _ x y h1 h2
      · rw [List.getElem?_drop] at hj
        have := how.cells (g := g) rfl _ x hj
        rw [add_at] at this
        simpa using this
    · simp at hr
  | e0 p => simp [rowsV] at hr
  | lst T cs vs g hg hf h1 hn h => simp [rowsV] at hr
  | mp r g h => simp [rowsV] at hr
  | dead v => simp [rowsV] at hr
  | nsl => simp [rowsV] at hr
  | nptr => simp [rowsV] at hr
  | ns r i v T n us u0 hA hi hu u hs =>
    simp only [rowsV] at hr
    split at hr
    case h_2 => simp at hr
    rename_i T' n' rows' hroot
    split at hr
    case h_2 => simp at hr
    rename_i row hrow
    split at hr
    case h_2 => simp at hr
    rename_i rws hc
    injection hr with hr
    subst hr
    obtain ⟨rfl, h0, hl, ys, how, hrep⟩ := ns_own hR hA hi hu hroot hrow hc
    rcases how.2 with ⟨rfl, hz⟩ | ⟨g, cap, cur, rfl, _, ⟨fz, hh, hmk⟩, hnc, hcm, hcs, htake⟩
    · obtain ⟨_, rfl | ⟨_, p, rfl⟩⟩ := hs
      · exact .inl ⟨List.eq_nil_of_length_eq_zero hz, none, 0, rfl, fun _ => rfl⟩
      · exact .inl ⟨List.eq_nil_of_length_eq_zero hz, p, 0, rfl, fun _ => rfl⟩
    · obtain ⟨_, rfl | ⟨hc, _⟩⟩ := hs
      case inr => cases hc
      refine .inr ⟨g, 0, T'.es2, cap, ys, rfl, h0, hl, Nat.le_trans hnc hcm, hrep, fun j x hj => ?_⟩
      have := how.cells (g := g) rfl j x hj
      rw [add_at] at this
      exact this
  | np => simp [rowsV] at hr
  | nt => simp [rowsV] at hr


omit [Bad] in
omit DW in
theorem byteRows_flat : ∀ {rows : List (List D)}, byteRows rows = true → rows.flatten = (rows.map byteOf).map (fun n => D.lit (.int .u8 n))
  | [], _ => rfl
  | r :: rows, h => by
    simp only [byteRows] at h
    split at h
    · rename_i n
      rw [List.flatten_cons, byteRows_flat h]
      rfl
    · simp at h
omit [Bad] in
omit DW in
theorem repL_bytes {w : World} {S : Nat → Prop} {ns : List Int} {xs : List Value} (h : RepL w S (ns.map (fun n => D.lit (.int .u8 n))) xs) : xs = ns.map (Value.int .u8) := by
  have hl : ns.length = xs.length := by have := h.1; simpa using this
  apply List.ext_getElem?
  intro i
  by_cases hi : i < ns.length
  · have h1 : (ns.map (fun n => D.lit (.int .u8 n)))[i]? = some (D.lit (.int .u8 ns[i])) := by simp [hi]
    have h2 : xs[i]? = some (xs[i]'(by omega)) := by simp [show i < xs.length by omega]
    have := (h.2 i _ _ h1 h2).lit_inv
    rw [h2, this]
    simp [hi]
  · rw [List.getElem?_eq_none (by omega), List.getElem?_eq_none (by simp; omega)]

theorem gives_convert (hE : EnvOK E P) (hR : Roots w A F) (hS : Slots w A t a.tmps) (src dst : TypeId) (x : Operand) (h : opQ E t F (.convert src dst x) k = some r) : Gives P w A a (.convert src dst x) k r := by
  simp only [opQ] at h
  split at h
  · rename_i j n hx
    split at h
    · rename_i i i' hi hi'
      obtain ⟨_, _, h2, _⟩ := hE.ty _ _ hi
      obtain ⟨_, _, h2', _⟩ := hE.ty _ _ hi'
      split at h
      · rename_i q1 q hd hd'
        rw [hd] at h2
        rw [hd'] at h2'
        exact ⟨_, _, h, relV_lit _ _ _ rfl, fun w' o hb ho => by
          simp only [execOp, ho, eval_lit hS hx, Sem.run_bind, convert, run_underlying h2, run_underlying h2', Result.andThen_ok, Conv.intToInt, Sem.run_pure]⟩
      · simp at h
    · simp at h
  · rename_i s hx
    split at h
    · rename_i i i' hi hi'
      obtain ⟨_, _, h2, _⟩ := hE.ty _ _ hi
      obtain ⟨_, _, h2', _⟩ := hE.ty _ _ hi'
      split at h
      · rename_i hd hd'
        rw [hd] at h2
        rw [hd'] at h2'
        exact ⟨_, _, h, relV_lit _ _ _ rfl, fun w' o hb ho => by
          simp only [execOp, ho, eval_lit hS hx, Sem.run_bind, convert, run_underlying h2, run_underlying h2', Result.andThen_ok, Sem.run_pure]⟩
      · simp at h
    · simp at h
  · split at h
    case h_2 => simp at h
    split at h
    case h_2 => simp at h
    rename_i i i' rows hi hi' hrw
    split at h
    case h_2 => simp at h
    rename_i e hd hd'
    split at h
    case h_2 => simp at h
    rename_i q hq
    split at h
    case h_2 => simp at h
    rename_i hqd hbr
    obtain ⟨_, _, h2, _⟩ := hE.ty _ _ hi
    obtain ⟨_, _, h2', _⟩ := hE.ty _ _ hi'
    obtain ⟨_, _, h2q, _⟩ := hE.ty _ _ hq
    rw [hd] at h2
    rw [hd'] at h2'
    rw [hqd] at h2q
    have hv := val_rel hS x
    have hflat := byteRows_flat hbr
    rcases rows_cells hR hv hrw with ⟨rfl, p, cap, he, hp⟩ | ⟨b, o, es, cap, xs, he, hes, hlen, hmax, hrep, hcell⟩
    · refine ⟨_, _, h, relV_lit _ _ _ rfl, fun w' o hb ho => ?_⟩
      simp only [execOp, ho, he, Sem.run_bind]
      rw [run_convert_bytes_string w' src dst e p 0 cap h2 h2q h2']
      cases p with
      | none => simp [Conv.bytesToString, bytesOf]
      | some ad =>
        rw [run_bytesToString w' ad 0 cap [] (by have := run_loadCells_list (P := P) w' ad [] (fun j v h => by simp at h); simpa using this)]
        simp [bytesOf]
    · rw [hflat] at hrep
      have hx := repL_bytes hrep
      have hxl : xs.length = rows.length := by rw [hx]; simp
      refine ⟨_, _, h, relV_lit _ _ _ rfl, fun w' o' hb ho => ?_⟩
      have hl := run_loadCells_list (P := P) w' ⟨b, o, none⟩ xs (fun j v hj => by rw [add_at]; exact below_lt hb (hcell j v hj))
      rw [hxl, hx] at hl
      simp only [execOp, ho, he, Sem.run_bind]
      rw [run_convert_bytes_string w' src dst e _ rows.length cap h2 h2q h2', run_bytesToString w' _ rows.length cap (rows.map byteOf) hl]
      simp [bytesOf]

theorem gives_func (hS : Slots w A t a.tmps) (f : FuncId) (first caps : Array Operand) (h : opQ E t F (.makeFunc (.func f) first caps) k = some r) : Gives P w A a (.makeFunc (.func f) first caps) k r := by
  simp only [opQ] at h
  split at h
  · rename_i hf
    refine ⟨_, _, h, .clo f _ (caps.map a.eval) (by simp [mapO_eq]) (fun i c v h1 h2 => ?_), fun w' o hb ho => ?_⟩
    · rw [mapO_eq, List.getElem?_map, Option.map_eq_some_iff] at h1
      obtain ⟨x, hx, rfl⟩ := h1
      rw [Array.getElem?_map, Option.map_eq_some_iff] at h2
      obtain ⟨y, hy, rfl⟩ := h2
      have : x = y := by
        have := hx; rw [Array.getElem?_toList] at this; rw [hy] at this; exact (Option.some.inj this).symm
      subst this
      exact val_rel hS x
    · have hf' : first = #[] := by
        apply Array.ext'; simpa using hf
      subst hf'
      simp only [execOp, ho, Sem.run_bind, Instr.makeFunc, Sem.run_pure, Result.andThen_ok]
      simp
  · simp at h

theorem gives_fieldAddr (hE : EnvOK E P) (hS : Slots w A t a.tmps) (s : TypeId) (x : Operand) (f : Nat) (h : opQ E t F (.fieldAddr s x f) k = some r) : Gives P w A a (.fieldAddr s x f) k r := by
  simp only [opQ] at h
  split at h
  case h_2 => simp at h
  rename_i i hi
  split at h
  case h_2 => simp at h
  rename_i fs hd
  split at h
  case h_2 => simp at h
  rename_i fd hfd
  split at h
  case h_2 => simp at h
  rename_i n hn
  obtain ⟨_, _, h2, _⟩ := hE.ty _ _ hi
  rw [hd] at h2
  have hsz : ∀ w' : World, (sizeOf fd.type).run P w' = .ok (n + 1) w' := by
    intro w'
    unfold sizeV at hn
    split at hn
    · rename_i j hj
      obtain ⟨ti, e1, _, e3, _⟩ := hE.ty _ _ hj
      injection hn with hn
      simp only [sizeOf, typeInfo, Sem.run_bind, run_program, Result.andThen_ok, e1, Sem.run_pure, e3, hn]
    · simp at hn
  have hget : fs[f]? = some fd := by simpa using hfd
  have run : ∀ (b o : Nat) (w' : World), (Instr.fieldAt s (.pointer (some ⟨b, o, none⟩)) f).run P w' = .ok (.pointer (some ⟨b, o + fd.offset, none⟩)) w' := by
    intro b o w'
    simp only [Instr.fieldAt, Sem.run_bind, run_underlying h2, Result.andThen_ok, hget, Instr.sureAddr, Sem.run_pure, fieldPlace, hsz]
    simp [add_at]
  have hv := val_rel hS x
  split at h
  · rename_i rr j hx
    rw [hx] at hv
    generalize he : a.eval x = u at hv
    cases hv with
    | bp _ _ g hA => exact ⟨_, _, h, .bp rr _ g hA, fun w' o hb ho => by simp only [execOp, ho, he, Sem.run_bind, run, Result.andThen_ok, Sem.run_pure]⟩
  · rename_i rr i' j hx
    rw [hx] at hv
    generalize he : a.eval x = u at hv
    cases hv with
    | ptr _ _ _ g n' cap es e hA => exact ⟨_, _, h, .ptr rr i' (j + fd.offset) g n' cap es e hA, fun w' o hb ho => by simp only [execOp, ho, he, Sem.run_bind, run, Result.andThen_ok, Sem.run_pure, Nat.add_assoc]⟩
  · rename_i rows i' j hx
    rw [hx] at hv
    generalize he : a.eval x = u at hv
    cases hv with
    | rp _ _ _ b o es cap hr hes => exact ⟨_, _, h, .rp rows i' (j + fd.offset) b o es cap hr hes, fun w' o hb ho => by simp only [execOp, ho, he, Sem.run_bind, run, Result.andThen_ok, Sem.run_pure, Nat.add_assoc]⟩
  · rename_i rr i' j hx
    rw [hx] at hv
    generalize he : a.eval x = u at hv
    cases hv with
    | nptr _ _ _ g m cap T n us hA => exact ⟨_, _, h, .nptr rr i' (j + fd.offset) g m cap T n us hA, fun w' o hb ho => by simp only [execOp, ho, he, Sem.run_bind, run, Result.andThen_ok, Sem.run_pure, Nat.add_assoc]⟩
  · rename_i rr i' q c hx
    rw [hx] at hv
    generalize he : a.eval x = u at hv
    cases hv with
    | np _ _ _ _ v T n us g o m cap hA hi hu => exact ⟨_, _, h, .np rr i' q (c + fd.offset) v T n us g o m cap hA hi hu, fun w' o hb ho => by simp only [execOp, ho, he, Sem.run_bind, run, Result.andThen_ok, Sem.run_pure, Nat.add_assoc]⟩
  · simp at h

omit [Bad] in
theorem sizeV_run {E : Env} {P : Program} (hE : EnvOK E P) {ty : TypeId} {n : Nat} (hn : sizeV E ty = some n) (w' : World) : (sizeOf ty).run P w' = .ok n w' := by
  unfold sizeV at hn
  split at hn
  · rename_i j hj
    obtain ⟨ti, e1, _, e3, _⟩ := hE.ty _ _ hj
    injection hn with hn
    simp only [sizeOf, typeInfo, Sem.run_bind, run_program, Result.andThen_ok, e1, Sem.run_pure, e3, hn]
  · simp at hn

theorem gives_field (hE : EnvOK E P) (hS : Slots w A t a.tmps) (s : TypeId) (x : Operand) (f : Nat) (h : opQ E t F (.field s x f) k = some r) : Gives P w A a (.field s x f) k r := by
  simp only [opQ] at h
  split at h
  case h_2 => simp at h
  rename_i i hi
  split at h
  case h_2 => simp at h
  rename_i fs hd
  split at h
  case h_2 => simp at h
  rename_i fd hfd
  split at h
  case h_2 => simp at h
  rename_i n hn
  split at h
  case h_2 => simp at h
  rename_i cs hx
  split at h
  case h_2 => simp at h
  rename_i v hs
  obtain ⟨_, _, h2, _⟩ := hE.ty _ _ hi
  rw [hd] at h2
  have hget : fs[f]? = some fd := by simpa using hfd
  have hv := val_rel hS x
  rw [hx] at hv
  generalize he : a.eval x = u at hv
  cases hv with
  | agg _ vs hl hc =>
    have hrel : RelL w A cs vs.toList := ⟨by simpa using hl, fun j c v h1 h2 => hc j c v h1 (by simpa using h2)⟩
    have hj : ∃ j, look E.tys fd.type = some j ∧ j.size = n := by
      unfold sizeV at hn
      split at hn
      · rename_i j hj; injection hn with hn; exact ⟨j, hj, hn⟩
      · simp at hn
    obtain ⟨j, hj, hjn⟩ := hj
    obtain ⟨r1, r2, r3⟩ := shapeV_rel hj ((hrel.drop fd.offset).take n) hs
    refine ⟨_, _, h, r1, fun w' o hb ho => ?_⟩
    obtain ⟨_, e1, e2, e3, _⟩ := hE.ty _ _ hj
    have hag : (isAgg fd.type).run P w' = .ok (isAggD j.desc) w' := by
      unfold isAgg
      simp only [Sem.run_bind, run_underlying e2, Result.andThen_ok]
      cases j.desc <;> rfl
    have hp : (part fd.type vs fd.offset).run P w' = .ok (packV j.desc ((vs.toList.drop fd.offset).take n)) w' := by
      unfold part packV
      cases hd : isAggD j.desc with
      | true =>
        rw [hd] at hag
        simp only [Sem.run_bind, hag, Result.andThen_ok, if_true, sizeV_run hE hn, Sem.run_pure]
        congr 2
        apply Array.ext'
        simp [Array.toList_extract, List.extract_eq_take_drop]
      | false =>
        rw [hd] at hag
        obtain ⟨u, hu⟩ := r3 hd
        have : vs[fd.offset]? = some u := by
          have h0 : ((vs.toList.drop fd.offset).take n)[0]? = some u := by rw [hu]; rfl
          rw [List.getElem?_take] at h0
          split at h0
          · rw [List.getElem?_drop] at h0; simpa using h0
          · simp at h0
        simp only [Sem.run_bind, hag, Result.andThen_ok, Bool.false_eq_true, if_false, this, Sem.run_pure, hu]
        rfl
    simp only [execOp, ho, he, Sem.run_bind, Instr.field, run_underlying h2, Result.andThen_ok, hget, asAgg, hp, Sem.run_pure]

theorem gives_indexAddr (hE : EnvOK E P) (hR : Roots w A F) (hS : Slots w A t a.tmps) (ty : TypeId) (x ix : Operand) (h : opQ E t F (.indexAddr ty x ix) k = some r) : Gives P w A a (.indexAddr ty x ix) k r := by
  simp only [opQ] at h
  split at h
  case h_2 => simp at h
  rename_i i hi
  split at h
  case h_2 => simp at h
  rename_i e hd
  split at h
  case h_2 => simp at h
  rename_i n hn
  split at h
  case h_2 => simp at h
  rename_i kq q hq
  have hq' := eval_lit hS hq
  obtain ⟨_, _, h2, _⟩ := hE.ty _ _ hi
  rw [hd] at h2
  have run : ∀ (b o len cap : Nat) (w' : World), 0 ≤ q → q.toNat < len →
      (Instr.indexAt ty (.slice (some ⟨b, o, none⟩) len cap) (.int kq q)).run P w' = .ok (.pointer (some ⟨b, o + q.toNat * n, none⟩)) w' := by
    intro b o len cap w' h0 h1
    have h3 : q < (len : Int) := by omega
    simp only [Instr.indexAt, asIntOf, Sem.run_bind, run_underlying h2, Result.andThen_ok, Sem.run_pure]
    rw [if_pos ⟨h0, h3⟩]
    simp only [Sem.run_bind, sizeV_run hE hn, Result.andThen_ok, Sem.run_pure, add_at]
  have hv := val_rel hS x
  split at h
  · rename_i rows hx
    rw [hx] at hv
    split at h
    case h_2 => simp at h
    rename_i h0
    split at h
    case h_2 => simp at h
    rename_i row hrow
    split at h
    case h_2 => simp at h
    rename_i hlen
    have hlen' : row.length = n := Nat.eq_of_beq_eq_true hlen
    have h0' : 0 ≤ q := of_decide_eq_true h0
    have hlt : q.toNat < rows.length := (List.getElem?_eq_some_iff.mp hrow).1
    generalize he : a.eval x = u at hv
    cases hv with
    | d _ _ hrep =>
      have hrep0 := hrep
      cases hrep with
      | empty p cap hp => simp at hlt
      | arr _ b o es cap g hSb hes hl hmax hcap hcell hr =>
        have hes' : es = n := by rw [← hl row (List.mem_of_getElem? hrow), hlen']
        subst hes'
        have hrel : RelV w A (.rp rows q.toNat 0) (.pointer (some ⟨b, o + (q.toNat * es + 0), none⟩)) := .rp rows q.toNat 0 b o es cap (by
          have : Rep w (Free A) (.arr rows) (.slice (some ⟨b, o, none⟩) rows.length cap) := hrep0
          exact this) hl
        exact ⟨_, _, h, hrel, fun w' o' hb ho => by
          simp only [execOp, ho, he, hq', Sem.run_bind, run b o rows.length cap w' h0' hlt, Result.andThen_ok, Sem.run_pure, Nat.add_zero]⟩
  · rename_i rr hx
    rw [hx] at hv
    split at h
    case h_2 => simp at h
    rename_i e1 es1 rows hroot
    split at h
    case h_2 => simp at h
    rename_i h0
    split at h
    case h_2 => simp at h
    rename_i row hrow
    split at h
    case h_2 => simp at h
    rename_i hlen
    have hlen' : row.length = n := Nat.eq_of_beq_eq_true hlen
    have h0' : 0 ≤ q := of_decide_eq_true h0
    have hlt : q.toNat < rows.length := (List.getElem?_eq_some_iff.mp hrow).1
    obtain ⟨ri, g1, g2⟩ := hR.rel rr _ (root_get hroot)
    generalize he : a.eval x = u at hv
    cases hv with
    | sl _ v e' es hA _ hv' =>
      rw [hA] at g1
      injection g1 with g1; injection g1 with g1
      subst g1
      obtain ⟨rfl, rfl, hes, hl, xs, how, hrep⟩ := g2
      have hes' : es1 = n := by rw [← hl row (List.mem_of_getElem? hrow), hlen']
      subst hes'
      rcases how.2 with ⟨_, hz⟩ | ⟨g, cap, cur, rfl, _, ⟨fz, hh, hmk⟩, hnc, hcm, hcs, htake⟩
      · omega
      · obtain ⟨_, rfl | ⟨hc, _⟩⟩ := hv'
        case inr => cases hc
        refine ⟨_, _, h, .ptr rr q.toNat 0 g rows.length cap es1 _ hA, fun w' o' hb ho => ?_⟩
        simp only [execOp, ho, he, hq', Sem.run_bind, run g 0 rows.length cap w' h0' hlt, Result.andThen_ok, Sem.run_pure, Nat.add_zero, Nat.zero_add]
  · rename_i rr i0 hx
    rw [hx] at hv
    split at h
    case h_2 => simp at h
    rename_i e1 es1 rows hroot
    split at h
    case h_2 => simp at h
    rename_i h0
    split at h
    case h_2 => simp at h
    rename_i row hrow
    split at h
    case h_2 => simp at h
    rename_i hlen
    have hlen' : row.length = n := Nat.eq_of_beq_eq_true hlen
    have h0' : 0 ≤ q := of_decide_eq_true h0
    have hlt : i0 + q.toNat < rows.length := (List.getElem?_eq_some_iff.mp hrow).1
    obtain ⟨ri, g1, g2⟩ := hR.rel rr _ (root_get hroot)
    generalize he : a.eval x = u at hv
    cases hv with
    | tl _ _ g m cap es' e' hA hi hc =>
      rw [hA] at g1
      injection g1 with g1; injection g1 with g1
      subst g1
      obtain ⟨rfl, rfl, hes, hl, xs, how, hrep⟩ := g2
      have hes' : es1 = n := by rw [← hl row (List.mem_of_getElem? hrow), hlen']
      subst hes'
      rcases how.2 with ⟨he, _⟩ | ⟨g', cap', cur, he, _, ⟨fz, hh, hmk⟩, hnc, hcm, hcs, htake⟩
      · simp at he
      simp only [Value.slice.injEq, Option.some.injEq, Addr.mk.injEq, and_true, true_and] at he
      obtain ⟨rfl, rfl, rfl⟩ := he
      refine ⟨_, _, h, .ptr rr (i0 + q.toNat) 0 g rows.length cap es1 _ hA, fun w' o' hb ho => ?_⟩
      simp only [execOp, ho, he, hq', Sem.run_bind, run g (i0 * es1) (rows.length - i0) (cap - i0) w' h0' (by omega), Result.andThen_ok, Sem.run_pure, Nat.add_zero, Nat.add_mul]
  · rename_i rr hx
    rw [hx] at hv
    split at h
    case h_2 => simp at h
    rename_i T' n' rows hroot
    split at h
    case h_2 => simp at h
    rename_i h0
    split at h
    case h_2 => simp at h
    rename_i row hrow
    split at h
    case h_2 => simp at h
    rename_i hlen
    have hlen' : row.length = n := Nat.eq_of_beq_eq_true hlen
    have h0' : 0 ≤ q := of_decide_eq_true h0
    have hlt : q.toNat < rows.length := (List.getElem?_eq_some_iff.mp hrow).1
    obtain ⟨ri, g1, g2⟩ := hR.rel rr _ (root_get hroot)
    generalize he : a.eval x = u at hv
    cases hv with
    | nsl _ v T n0 us hA _ hs =>
      rw [hA] at g1
      injection g1 with g1; injection g1 with g1
      subst g1
      obtain ⟨rfl, rfl, hn⟩ := g2
      obtain ⟨xs, how, _⟩ := hn.rep
      have hes' : T'.es = n := by rw [← hn.len row (List.mem_of_getElem? hrow), hlen']
      rcases how.2 with ⟨_, hz⟩ | ⟨g, cap, cur, rfl, _, ⟨fz, hh, hmk⟩, hnc, hcm, hcs, htake⟩
      · omega
      · obtain ⟨_, rfl | ⟨hc, _⟩⟩ := hs
        case inr => cases hc
        refine ⟨_, _, h, .nptr rr q.toNat 0 g rows.length cap T' n' us hA, fun w' o' hb ho => ?_⟩
        simp only [execOp, ho, he, hq', Sem.run_bind, run g 0 rows.length cap w' h0' hlt, Result.andThen_ok, Sem.run_pure, Nat.add_zero, Nat.zero_add, hes']
  · rename_i rr i1 c1 hx
    rw [hx] at hv
    split at h
    case h_2 => simp at h
    rename_i T' n' rows hroot
    split at h
    case h_2 => simp at h
    rename_i row0 hrow0
    split at h
    case h_2 => simp at h
    rename_i rws hc
    split at h
    case h_2 => simp at h
    rename_i h0
    split at h
    case h_2 => simp at h
    rename_i row hrow
    split at h
    case h_2 => simp at h
    rename_i hlen
    have hlen' : row.length = n := Nat.eq_of_beq_eq_true hlen
    have h0' : 0 ≤ q := of_decide_eq_true h0
    have hlt : q.toNat < rws.length := (List.getElem?_eq_some_iff.mp hrow).1
    generalize he : a.eval x = u at hv
    cases hv with
    | ns _ _ v T n0 us u0 hA hi hu u hs =>
      obtain ⟨rfl, h3, hl, ys, how, hrep⟩ := ns_own hR hA hi hu hroot hrow0 hc
      have hes' : T'.es2 = n := by rw [← hl row (List.mem_of_getElem? hrow), hlen']
      rcases how.2 with ⟨_, hz⟩ | ⟨g, cap, cur, rfl, _, ⟨fz, hh, hmk⟩, hnc, hcm, hcs, htake⟩
      · omega
      · obtain ⟨_, rfl | ⟨hc, _⟩⟩ := hs
        case inr => cases hc
        refine ⟨_, _, h, .np rr i1 q.toNat 0 v T' n0 us g 0 rws.length cap hA hi hu, fun w' o' hb ho => ?_⟩
        simp only [execOp, ho, he, hq', Sem.run_bind, run g 0 rws.length cap w' h0' hlt, Result.andThen_ok, Sem.run_pure, Nat.add_zero, Nat.zero_add, hes']
  · simp at h

theorem gives_index (hE : EnvOK E P) (hS : Slots w A t a.tmps) (ty : TypeId) (x ix : Operand) (h : opQ E t F (.index ty x ix) k = some r) : Gives P w A a (.index ty x ix) k r := by
  simp only [opQ] at h
  split at h
  case h_2 => simp at h
  rename_i i hi
  split at h
  case h_2 => simp at h
  rename_i hd
  split at h
  case h_2 => simp at h
  rename_i kq q hq
  split at h
  case h_2 => simp at h
  rename_i s hx
  split at h
  case h_2 => simp at h
  rename_i h0
  split at h
  case h_2 => simp at h
  rename_i b hb'
  obtain ⟨_, _, h2, _⟩ := hE.ty _ _ hi
  rw [hd] at h2
  have h0' : 0 ≤ q := of_decide_eq_true h0
  refine ⟨_, _, h, relV_lit _ _ _ rfl, fun w' o hb ho => ?_⟩
  simp only [execOp, ho, eval_lit hS hq, eval_lit hS hx, Sem.run_bind, Instr.index, asIntOf, run_underlying h2, Result.andThen_ok, Sem.run_pure, if_pos h0', hb']

omit [Bad] in
omit DW in
theorem cutV_some {R : Type} {t : List V} {x : Option Operand} {z : Int} {k : Int → Option R} {r : R} (h : cutV t x z k = some r) :
    ∃ q, k q = some r ∧ ((x = none ∧ q = z) ∨ ∃ o kk, x = some o ∧ val t o = .d (.lit (.int kk q))) := by
  unfold cutV at h
  split at h
  · exact ⟨z, h, .inl ⟨rfl, rfl⟩⟩
  · rename_i o
    split at h
    · rename_i kk q hv; exact ⟨q, h, .inr ⟨o, kk, rfl, hv⟩⟩
    · simp at h

omit DW in
theorem zeros_rel (w : World) (A : List (Option RI)) (z : Value) : RelL w A (zerosV z) z.cells.toList := by
  unfold zerosV
  rw [mapO_eq]
  refine ⟨by simp, fun i c v h1 h2 => ?_⟩
  rw [List.getElem?_map, Option.map_eq_some_iff] at h1
  obtain ⟨x, hx, rfl⟩ := h1
  rw [hx] at h2
  injection h2 with h2
  subst h2
  unfold zeroV
  split
  · exact .d _ _ (.empty _ _ (fun _ => rfl))
  · split
    · rename_i h1; exact relV_lit _ _ _ h1
    · exact .dead _

omit DW in
theorem leaf_one {c : V} {u : Value} (h : RelV w A c u) (hl : leaf c = true) : u.oneCell' = true ∧ u.cells = #[u] := by
  cases h with
  | d x _ h =>
    cases h with
    | lit v hv => exact ⟨hv, by cases u <;> simp_all [Value.oneCell', Value.cells]⟩
    | empty p cap => exact ⟨rfl, rfl⟩
    | arr rows b o es cap g => exact ⟨rfl, rfl⟩
  | agg cs vs hn h => simp [leaf] at hl
  | tup cs vs hn h => simp [leaf] at hl
  | bp r j g h => exact ⟨rfl, rfl⟩
  | ptr r i j g n cap es e h => exact ⟨rfl, rfl⟩
  | sl r v e es h u hv => obtain ⟨⟨p, n, c, rfl⟩, _⟩ := hv; exact ⟨rfl, rfl⟩
  | e0 p => simp [leaf] at hl
  | lst T cs vs g hg hf h1 hn h => exact ⟨rfl, rfl⟩
  | mp r g h => exact ⟨rfl, rfl⟩
  | rp rows i j b o es cap h hes => exact ⟨rfl, rfl⟩
  | clo f cs vs hn h => exact ⟨rfl, rfl⟩
  | tl r i g n cap es e h hi hc => exact ⟨rfl, rfl⟩
  | nsl r v T n vs h u hs => obtain ⟨⟨p, m, c, rfl⟩, _⟩ := hs; exact ⟨rfl, rfl⟩
  | nptr => exact ⟨rfl, rfl⟩
  | ns r i v T n vs u0 h hi hu u hs => obtain ⟨⟨p, m, c, rfl⟩, _⟩ := hs; exact ⟨rfl, rfl⟩
  | np => exact ⟨rfl, rfl⟩
  | nt => exact ⟨rfl, rfl⟩
  | dead v => simp [leaf] at hl

omit [Bad] in
omit DW in
theorem leafs_all {cs : List V} (h : leafs cs = true) : ∀ c ∈ cs, leaf c = true := by
  induction cs with
  | nil => intro c hc; simp at hc
  | cons x cs ih =>
    simp only [leafs] at h
    split at h
    · rename_i hx
      intro c hc
      rcases List.mem_cons.mp hc with rfl | hc
      · exact hx
      · exact ih h c hc
    · simp at h

omit DW in
theorem cells_rel {c : V} {u : Value} (h : RelV w A c u) (hl : leafs (cellsV c) = true) : RelL w A (cellsV c) u.cells.toList ∧ ∀ v ∈ u.cells.toList, v.oneCell' = true := by
  by_cases hc : ∃ cs, c = .agg cs
  · obtain ⟨cs, rfl⟩ := hc
    cases h with
    | agg _ vs hn h =>
      have hrel : RelL w A cs vs.toList := ⟨by simpa using hn, fun i c v h1 h2 => h i c v h1 (by simpa using h2)⟩
      refine ⟨hrel, fun v hv => ?_⟩
      obtain ⟨i, hi⟩ := List.mem_iff_getElem?.mp hv
      have hlt : i < cs.length := by rw [hrel.1]; exact (List.getElem?_eq_some_iff.mp hi).1
      have hci : cs[i]? = some cs[i] := by simp [hlt]
      exact (leaf_one (hrel.2 i _ v hci hi) (leafs_all hl _ (List.getElem_mem _))).1
  · have hcv : cellsV c = [c] := by
      cases c <;> first | rfl | exact absurd ⟨_, rfl⟩ hc
    rw [hcv] at hl ⊢
    obtain ⟨h1, h2⟩ := leaf_one h (leafs_all hl c (by simp))
    rw [h2]
    refine ⟨⟨rfl, fun i c' v' g1 g2 => ?_⟩, fun v hv => ?_⟩
    · cases i with
      | zero => simp at g1 g2; subst g1; subst g2; exact h
      | succ i => simp at g1
    · simp at hv; subst hv; exact h1

omit [Bad] in
omit DW in
/-- Cells put over cells. -/
theorem put_cells : ∀ (l : List Value) (k off : Nat) (arr : Array Value) (i : Nat),
    ((l.zipIdx k).foldl (fun cs (p : Value × Nat) => cs.setIfInBounds (off + p.2) p.1) arr)[i]? = if off + k ≤ i ∧ i < off + k + l.length ∧ i < arr.size then l[i - (off + k)]? else arr[i]?
  | [], k, off, arr, i => by
    simp only [List.zipIdx_nil, List.foldl_nil, List.length_nil, Nat.add_zero]
    rw [if_neg (by omega)]
  | v :: l, k, off, arr, i => by
    rw [List.zipIdx_cons, List.foldl_cons, put_cells l (k + 1) off]
    simp only [Array.size_setIfInBounds, List.length_cons]
    by_cases h1 : off + (k + 1) ≤ i ∧ i < off + (k + 1) + l.length ∧ i < arr.size
    · rw [if_pos h1, if_pos (by omega), show i - (off + k) = (i - (off + (k + 1))) + 1 by omega, List.getElem?_cons_succ]
    · rw [if_neg h1, Array.getElem?_setIfInBounds]
      by_cases h2 : off + k = i
      · subst h2
        rw [if_pos rfl]
        by_cases h3 : off + k < arr.size
        · rw [if_pos h3, if_pos (by omega)]; simp
        · rw [if_neg h3, if_neg (by omega)]
          exact (Array.getElem?_eq_none (by omega)).symm
      · rw [if_neg h2, if_neg (by omega)]

omit [Bad] in
theorem places_run (hE : EnvOK E P) : ∀ (fs : List Field) (ps : List (Nat × Nat)), placesV E fs = some ps → fs.mapM (fun f => (P.info? f.type).map fun i => (f.offset, i.size)) = some ps
  | [], ps, h => by simpa [placesV] using h
  | f :: fs, ps, h => by
    simp only [placesV] at h
    split at h
    case h_2 => simp at h
    rename_i n hn
    split at h
    case h_2 => simp at h
    rename_i ps' hps
    injection h with h
    subst h
    unfold sizeV at hn
    split at hn
    case h_2 => simp at hn
    rename_i i hi
    injection hn with hn
    obtain ⟨ti, h1, _, h3, _⟩ := hE.ty _ _ hi
    simp only [List.mapM_cons, places_run hE fs ps' hps, h1, Option.map_some, h3, hn]
    rfl

omit DW in
theorem fill_rel (hS : Slots w A t a.tmps) {places : List (Nat × Nat)} : ∀ (ps : List (Nat × Operand)) (cs : List V) (cells : Array Value) (k : List V → Option R), RelL w A cs cells.toList → fillV places t ps cs k = some r →
    ∃ cs' cells', k cs' = some r ∧ RelL w A cs' cells'.toList ∧ Instr.fill (places.toArray[·]?) cells (ps.map fun (i, x) => (i, a.eval x)) = some cells'
  | [], cs, cells, k, hr, h => ⟨cs, cells, h, hr, rfl⟩
  | (i, x) :: ps, cs, cells, k, hr, h => by
    simp only [fillV, forceAll_eq] at h
    split at h
    case h_2 => simp at h
    rename_i off n hp
    split at h
    case h_2 => simp at h
    rename_i c1 c2 c3
    have h1 : (cellsV (val t x)).length = n := Nat.eq_of_beq_eq_true c1
    have h2 : off + n ≤ cs.length := by simpa using c2
    have hrel := (cells_rel (val_rel hS x) c3).1
    have hsz : (a.eval x).cells.size = n := by rw [← h1, hrel.1]; simp
    have hcs : cs.length = cells.size := by rw [hr.1]; simp
    refine (fill_rel hS ps _ ((a.eval x).cells.zipIdx.foldl (fun cs (p : Value × Nat) => cs.setIfInBounds (off + p.2) p.1) cells) k ?_ h).imp fun cs' ⟨cells', g1, g2, g3⟩ => ⟨cells', g1, g2, ?_⟩
    · have key : ∀ j, ((a.eval x).cells.zipIdx.foldl (fun cs (p : Value × Nat) => cs.setIfInBounds (off + p.2) p.1) cells)[j]? = if off ≤ j ∧ j < off + n then (a.eval x).cells[j - off]? else cells[j]? := by
        intro j
        have := put_cells (a.eval x).cells.toList 0 off cells j
        rw [← Array.foldl_toList, Array.toList_zipIdx, this]
        simp only [Nat.add_zero, Array.length_toList, hsz, Array.getElem?_toList]
        by_cases hj : off ≤ j ∧ j < off + n
        · rw [if_pos hj, if_pos (by omega)]
        · rw [if_neg hj, if_neg (by omega)]
      have hlen : ((a.eval x).cells.zipIdx.foldl (fun cs (p : Value × Nat) => cs.setIfInBounds (off + p.2) p.1) cells).size = cells.size := by
        refine Nat.le_antisymm (Nat.le_of_not_lt fun hlt => ?_) (Nat.le_of_not_lt fun hlt => ?_)
        · have := key cells.size
          rw [if_neg (by omega), Array.getElem?_eq_getElem hlt, Array.getElem?_eq_none (Nat.le_refl _)] at this
          simp at this
        · have := key ((a.eval x).cells.zipIdx.foldl (fun cs (p : Value × Nat) => cs.setIfInBounds (off + p.2) p.1) cells).size
          rw [Array.getElem?_eq_none (Nat.le_refl _)] at this
          split at this
          · rw [Array.getElem?_eq_getElem (by omega)] at this; simp at this
          · rw [Array.getElem?_eq_getElem hlt] at this; simp at this
      refine ⟨?_, fun j c v' k1 k2 => ?_⟩
      · simp only [List.length_append, List.length_take, List.length_drop, Array.length_toList, hlen, h1]
        omega
      · rw [Array.getElem?_toList, key] at k2
        by_cases hj : off ≤ j ∧ j < off + n
        · rw [if_pos hj] at k2
          rw [List.append_assoc, List.getElem?_append_right (by simp; omega), List.getElem?_append_left (by simp; omega)] at k1
          refine hrel.2 (j - off) c v' ?_ (by simpa using k2)
          rw [← k1]; congr 1; simp; omega
        · rw [if_neg hj] at k2
          refine hr.2 j c v' ?_ (by simpa using k2)
          by_cases hlt : j < off
          · rw [List.append_assoc, List.getElem?_append_left (by simp; omega), List.getElem?_take, if_pos hlt] at k1
            exact k1
          · rw [List.getElem?_append_right (by simp; omega), List.getElem?_drop] at k1
            rw [← k1]; congr 1; simp; omega
    · simp only [List.map_cons, Instr.fill]
      rw [show places.toArray[i]? = some (off, n) by simpa using hp]
      simp only
      rw [if_neg (by simp [hsz]; omega)]
      exact g3

theorem gives_build (hE : EnvOK E P) (hS : Slots w A t a.tmps) (ty : TypeId) (ps : Array (Nat × Operand)) (h : opQ E t F (.build ty ps) k = some r) : Gives P w A a (.build ty ps) k r := by
  simp only [opQ] at h
  split at h
  case h_2 => simp at h
  rename_i i hi
  split at h
  case h_2 => simp at h
  rename_i fs hd
  split at h
  case h_2 => simp at h
  rename_i places hp
  obtain ⟨cs, cells, h1, h2, h3⟩ := fill_rel hS _ _ _ _ (zeros_rel w A i.zero) h
  obtain ⟨ti, g1, g2, g3, g4, g5⟩ := hE.ty _ _ hi
  refine ⟨_, .agg cells, h1, .agg _ _ (by rw [h2.1]; simp) (fun j c u k1 k2 => h2.2 j c u k1 (by simpa using k2)), fun w' o hb ho => ?_⟩
  have hbuilt : P.built ty (ps.map fun (i, x) => (i, a.eval x)).toList = some cells := by
    unfold Program.built
    rw [g1, g2, hd]
    simp only [g5, places_run hE fs.toList places hp, Array.toList_map]
    exact h3
  simp only [execOp, ho, Sem.run_bind, run_build w' ty _ cells hbuilt, Result.andThen_ok, Sem.run_pure]

omit [Bad] in
omit DW in
theorem allLen_all {n : Nat} : ∀ {rows : List (List D)}, allLen n rows = true → ∀ row ∈ rows, row.length = n
  | [], _, row, hm => by simp at hm
  | x :: rows, h, row, hm => by
    simp only [allLen] at h
    split at h
    · rename_i hx
      rcases List.mem_cons.mp hm with rfl | hm
      · exact Nat.eq_of_beq_eq_true hx
      · exact allLen_all h row hm
    · simp at h

omit [Bad] in
omit DW in
/-- A piece of a row of data. -/
theorem rep_piece {w : World} {S : Nat → Prop} {rows : List (List D)} {p : Option Addr} {n cap es : Nat} (h : Rep w S (.arr rows) (.slice p n cap)) (hes : 0 < es) (hl : ∀ row ∈ rows, row.length = es) {l u : Nat} (h1 : l ≤ u) (h2 : u ≤ rows.length) :
    n = rows.length ∧ rows.length ≤ cap ∧ Rep w S (.arr ((rows.drop l).take (u - l))) (.slice (if cap = l then p else p.map (·.add (l * es))) (u - l) (cap - l)) := by
  cases h with
  | empty _ _ hp =>
    simp only [List.length_nil, Nat.le_zero] at h2
    subst h2
    have : l = 0 := by omega
    subst this
    refine ⟨rfl, Nat.zero_le _, ?_⟩
    simp only [List.drop_nil, List.take_nil, Nat.sub_self, Nat.zero_mul, Nat.sub_zero]
    refine .empty _ _ fun hn => ?_
    split at hn
    · rename_i hc; exact hc
    · exact hp (by simpa using hn)
  | arr _ b o es' cap' g hS hes' hlen hmax hcap hcell hrep =>
    refine ⟨rfl, hcap, ?_⟩
    by_cases hu : u = l
    · subst hu
      simp only [Nat.sub_self, List.take_zero]
      refine .empty _ _ fun hn => ?_
      split at hn <;> simp at hn
    · have hne : rows ≠ [] := fun e => by subst e; simp at h2; omega
      have hee : es' = es := by
        obtain ⟨r0, hr0⟩ := List.exists_mem_of_ne_nil rows hne
        rw [← hlen r0 hr0, hl r0 hr0]
      subst hee
      have hlenp : ((rows.drop l).take (u - l)).length = u - l := by simp; omega
      have hcl : cap ≠ l := by omega
      rw [if_neg hcl]
      simp only [Option.map_some, add_at]
      have hmem : ∀ row ∈ (rows.drop l).take (u - l), row.length = es' := fun row hm => hl row (List.mem_of_mem_drop (List.mem_of_mem_take hm))
      have key := Rep.arr (w := w) (S := S) ((rows.drop l).take (u - l)) b (o + l * es') es' (cap - l) (fun i => g (l * es' + i)) hS hes' hmem (by rw [hlenp]; omega) (by rw [hlenp]; omega) (fun i hi => by
        rw [hlenp] at hi
        rw [Nat.add_assoc]
        refine hcell (l * es' + i) ?_
        calc l * es' + i < l * es' + (u - l) * es' := by omega
          _ = u * es' := by rw [← Nat.add_mul]; congr 1; omega
          _ ≤ rows.length * es' := Nat.mul_le_mul_right _ h2) (fun i x hx => by
        refine hrep (l * es' + i) x ?_
        have hi : i < (u - l) * es' := by
          have := (List.getElem?_eq_some_iff.mp hx).1
          rw [flat_len _ hmem, hlenp] at this
          exact this
        have hq : i / es' < u - l := Nat.div_lt_of_lt_mul (by rw [Nat.mul_comm]; exact hi)
        have hm : i % es' < es' := Nat.mod_lt _ hes'
        have hdi : i = i / es' * es' + i % es' := by rw [Nat.mul_comm]; exact (Nat.div_add_mod i es').symm
        have hrow : rows[l + i / es']? = some (rows[l + i / es']'(by omega)) := by simp
        have hrow2 : ((rows.drop l).take (u - l))[i / es']? = some (rows[l + i / es']'(by omega)) := by
          rw [List.getElem?_take, if_pos hq, List.getElem?_drop]; exact hrow
        have f1 := flat_get _ hmem (i / es') (i % es') _ hrow2 hm
        have f2 := flat_get _ hlen (l + i / es') (i % es') _ hrow hm
        rw [← hdi, hx] at f1
        rw [show l * es' + i = (l + i / es') * es' + i % es' by rw [Nat.add_mul, Nat.add_assoc, ← hdi], f2, f1])
      rw [hlenp] at key
      exact key

theorem gives_piece (hE : EnvOK E P) (hS : Slots w A t a.tmps) (ty : TypeId) (x : Operand) (lo hi : Option Operand) {rows : List (List D)} (hx : val t x = .d (.arr rows)) (h : (match look E.tys ty with
        | some i => match i.desc with
          | .slice e => match sizeV E e with
            | some n => match allLen n rows, Nat.blt 0 n with
              | true, true => cutV t lo 0 fun l => cutV t hi (rows.length : Int) fun h => match decide (0 ≤ l), decide (l ≤ h), decide (h ≤ (rows.length : Int)) with
                | true, true, true => k (.d (.arr ((rows.drop l.toNat).take (h.toNat - l.toNat))))
                | _, _, _ => none
              | _, _ => none
            | none => none
          | _ => none
        | none => none) = some r) : Gives P w A a (.slice ty x lo hi none) k r := by
  split at h
  case h_2 => simp at h
  rename_i i hi'
  split at h
  case h_2 => simp at h
  rename_i e hd
  split at h
  case h_2 => simp at h
  rename_i n hn
  split at h
  case h_2 => simp at h
  rename_i a1 a2
  obtain ⟨l, h, hl⟩ := cutV_some h
  obtain ⟨u, h, hu⟩ := cutV_some h
  split at h
  case h_2 => simp at h
  rename_i c1 c2 c3
  have c1' : 0 ≤ l := of_decide_eq_true c1
  have c2' : l ≤ u := of_decide_eq_true c2
  have c3' : u ≤ (rows.length : Int) := of_decide_eq_true c3
  obtain ⟨_, _, h2, _⟩ := hE.ty _ _ hi'
  rw [hd] at h2
  have hv := val_rel hS x
  rw [hx] at hv
  generalize hea : a.eval x = v at hv
  cases hv with
  | d _ _ hrep =>
    obtain ⟨p, cap, rfl⟩ : ∃ p cap, v = .slice p rows.length cap := by
      cases hrep with
      | empty p cap hp => exact ⟨p, cap, rfl⟩
      | arr _ b o es cap g => exact ⟨_, cap, rfl⟩
    have hp := rep_piece hrep (by simpa using a2) (allLen_all a1) (l := l.toNat) (u := u.toNat) (by omega) (by omega)
    obtain ⟨_, hcap, hp⟩ := hp
    refine ⟨_, _, h, .d _ _ hp, fun w' o hb ho => ?_⟩
    have hb' : (Instr.sliceBounds true rows.length cap (lo.map a.eval) (hi.map a.eval) none).run P w' = .ok (l.toNat, u.toNat, cap) w' := by
      unfold Instr.sliceBounds
      rcases hl with ⟨rfl, rfl⟩ | ⟨o1, k1, rfl, hl⟩ <;> rcases hu with ⟨rfl, rfl⟩ | ⟨o2, k2, rfl, hu⟩
      · simp
      · have e2 := eval_lit hS hu
        simp [e2, Instr.sliceBound, asIntOf, show u ≤ (cap : Int) by omega, show 0 ≤ u by omega]
      · have e1 := eval_lit hS hl
        simp [e1, Instr.sliceBound, asIntOf, c1', show l ≤ (rows.length : Int) by omega]
      · have e1 := eval_lit hS hl
        have e2 := eval_lit hS hu
        have p1 : 0 ≤ u ∧ u ≤ ((cap : Nat) : Int) := ⟨by omega, by omega⟩
        have p2 : 0 ≤ l ∧ l ≤ ((u.toNat : Nat) : Int) := ⟨c1', by omega⟩
        simp only [Option.map_some, e1, e2, Instr.sliceBound, asIntOf, Sem.run_bind, Sem.run_pure, Result.andThen_ok, if_pos p1, if_pos p2, Option.isSome_none, Bool.false_eq_true, if_false]
    simp only [execOp, ho, hea, Sem.run_bind, Instr.sliceAt, Instr.slice, run_underlying h2, Result.andThen_ok, Option.isSome_none, Bool.false_eq_true, if_false, Option.map_none, hb', sizeV_run hE hn w', Sem.run_pure]

theorem gives_slice (hE : EnvOK E P) (hS : Slots w A t a.tmps) (ty : TypeId) (x : Operand) (lo hi mx : Option Operand) (h : opQ E t F (.slice ty x lo hi mx) k = some r) : Gives P w A a (.slice ty x lo hi mx) k r := by
  simp only [opQ] at h
  split at h
  · simp at h
  split at h
  rotate_left
  · rename_i rows hx; exact gives_piece hE hS ty x lo hi hx h
  · simp at h
  rename_i s hx
  split at h
  case h_2 => simp at h
  rename_i i hi'
  split at h
  case h_2 => simp at h
  rename_i hd
  obtain ⟨l, h, hl⟩ := cutV_some h
  obtain ⟨u, h, hu⟩ := cutV_some h
  split at h
  case h_2 => simp at h
  rename_i c1 c2 c3
  have c1' : 0 ≤ l := of_decide_eq_true c1
  have c2' : l ≤ u := of_decide_eq_true c2
  have c3' : u ≤ (s.size : Int) := of_decide_eq_true c3
  obtain ⟨_, _, h2, _⟩ := hE.ty _ _ hi'
  rw [hd] at h2
  refine ⟨_, _, h, relV_lit _ _ _ rfl, fun w' o hb ho => ?_⟩
  have hb' : (Instr.sliceBounds false s.size s.size (lo.map a.eval) (hi.map a.eval) none).run P w' = .ok (l.toNat, u.toNat, s.size) w' := by
    unfold Instr.sliceBounds
    rcases hl with ⟨rfl, rfl⟩ | ⟨o1, k1, rfl, hl⟩ <;> rcases hu with ⟨rfl, rfl⟩ | ⟨o2, k2, rfl, hu⟩
    · simp
    · have e2 := eval_lit hS hu
      simp [e2, Instr.sliceBound, asIntOf, c3', show 0 ≤ u by omega]
    · have e1 := eval_lit hS hl
      simp [e1, Instr.sliceBound, asIntOf, c1', show l ≤ (s.size : Int) by omega]
    · have e1 := eval_lit hS hl
      have e2 := eval_lit hS hu
      have p1 : 0 ≤ u ∧ u ≤ ((s.size : Nat) : Int) := ⟨by omega, c3'⟩
      have p2 : 0 ≤ l ∧ l ≤ ((u.toNat : Nat) : Int) := ⟨c1', by omega⟩
      simp only [Option.map_some, e1, e2, Instr.sliceBound, asIntOf, Sem.run_bind, Sem.run_pure, Result.andThen_ok, if_pos p1, if_pos p2, Option.isSome_none, Bool.false_eq_true, if_false]
  simp only [execOp, ho, eval_lit hS hx, Sem.run_bind, Instr.sliceAt, Instr.slice, run_underlying h2, Result.andThen_ok, Option.isSome_none, Bool.false_eq_true, if_false, Option.map_none, hb', Sem.run_pure]

theorem gives_extract (hS : Slots w A t a.tmps) (x : Operand) (i : Nat) (h : opQ E t F (.extract x i) k = some r) : Gives P w A a (.extract x i) k r := by
  simp only [opQ] at h
  split at h
  case h_2 => simp at h
  rename_i vs hx
  split at h
  case h_2 => simp at h
  rename_i v hv
  have hr := val_rel hS x
  rw [hx] at hr
  generalize he : a.eval x = u at hr
  cases hr with
  | tup _ us hn hc =>
    have hlt : i < us.size := by
      rw [← hn]; exact (List.getElem?_eq_some_iff.mp hv).1
    refine ⟨_, us[i], h, hc i v _ hv (by simp [hlt]), fun w' o hb ho => ?_⟩
    simp only [execOp, ho, he, Sem.run_bind, Instr.extract, Array.getElem?_eq_getElem hlt, Sem.run_pure, Result.andThen_ok]

omit DW in
theorem zeroV_rel (w : World) (A : List (Option RI)) (v : Value) : RelV w A (zeroV v) v := by
  unfold zeroV
  split
  · exact .d _ _ (.empty _ _ (fun _ => rfl))
  · split
    · rename_i h1; exact .d _ _ (.lit _ h1)
    · exact .dead _

omit [Bad] in
omit DW in
/-- A key looked for among a map's entries. -/
theorem find_look {w : World} {S : Nat → Prop} {K : IntKind} (n : Int) (z : D) {ents : List (Int × D)} {es : List MapEntry} (h : EntsR w S K ents es) : ∀ i, ∃ o, Instr.findNow (.int K) (.int K n) es i = some o ∧
    ((mhas ents n = true ∧ ∃ j v, o = some (j, v) ∧ Rep w S (mgetD ents n z) v) ∨ (mhas ents n = false ∧ o = none ∧ mgetD ents n z = z)) := by
  induction h with
  | nil => exact fun i => ⟨none, rfl, .inr ⟨rfl, rfl, rfl⟩⟩
  | cons m x e ents es hk hv h ih =>
    intro i
    unfold Instr.findNow
    rw [hk]
    simp only [Instr.sameNow, if_true]
    by_cases hm : m = n
    · subst hm
      simp only [beq_self_eq_true]
      exact ⟨_, rfl, .inl ⟨by simp [mhas], _, _, rfl, by simpa [mgetD] using hv⟩⟩
    · have e1 : (n == m) = false := by simpa using Ne.symm hm
      rw [e1]
      obtain ⟨o, g1, g2⟩ := ih (i + 1)
      refine ⟨o, g1, ?_⟩
      simp only [mhas, mgetD, decide_eq_false hm]
      exact g2

theorem gives_lookup (hE : EnvOK E P) (hR : Roots w A F) (hS : Slots w A t a.tmps) (ty : TypeId) (x ix : Operand) (ok : Bool) (h : opQ E t F (.lookup ty x ix ok) k = some r) : Gives P w A a (.lookup ty x ix ok) k r := by
  simp only [opQ] at h
  split at h
  case h_2 => simp at h
  rename_i i hi
  split at h
  case h_2 => simp at h
  rename_i kt et hd
  split at h
  case h_2 => simp at h
  rename_i ki ei hki hei
  split at h
  case h_2 => simp at h
  rename_i K hdk
  split at h
  case h_2 => simp at h
  rename_i K' n hix
  split at h
  case h_2 => simp at h
  rename_i rr hx
  split at h
  case h_2 => simp at h
  rename_i K2 ents c1 hroot
  split at h
  case h_2 => simp at h
  rename_i z c2 hz
  have c1 := of_decide_eq_true c1
  have c2 := of_decide_eq_true c2
  subst c1
  subst c2
  obtain ⟨_, _, h2, _⟩ := hE.ty _ _ hi
  rw [hd] at h2
  obtain ⟨_, _, hk2, _⟩ := hE.ty _ _ hki
  rw [hdk] at hk2
  obtain ⟨te, e1, e2, e3, e4, e5⟩ := hE.ty _ _ hei
  have hzr := zeroV_rel w A ei.zero
  rw [hz] at hzr
  have hv := val_rel hS x
  rw [hx] at hv
  generalize hex : a.eval x = u at hv
  obtain ⟨ri, r1, r2⟩ := hR.rel rr _ (root_get hroot)
  cases hv with
  | mp _ g hA =>
  rw [hA] at r1
  injection r1 with r1; injection r1 with r1
  subst r1
  obtain ⟨es, clock, hg, hes⟩ := r2
  obtain ⟨o, f1, f2⟩ := find_look n z hes 0
  obtain ⟨v, b, hv, hob, hlk⟩ : ∃ v b, RelV w A (.d (mgetD ents n z)) v ∧ b = mhas ents n ∧ ∀ w', w'.heap[g]? = w.heap[g]? → (Instr.lookup ty (.map (some g)) (.int K2 n) ok).run P w' = .ok (if ok then .tuple #[v, .bool b] else v) w' := by
    have hck : ∀ em w', (Instr.checkKey em 10000 kt (.int K2 n)).run P w' = .ok () w' := fun em w' => MapKept.run_checkKey hk2 (by show K2 = K2; rfl) em 9999
    have hzv : ∀ w', (zeroValue et).run P w' = .ok ei.zero w' := fun w' => by simp [zeroValue, typeInfo, e1, e5]
    rcases f2 with ⟨f3, j, v, rfl, f4⟩ | ⟨f3, rfl, f4⟩
    · refine ⟨v, true, .d _ _ f4, f3.symm, fun w' hw => ?_⟩
      have hg' : w'.heap[g]? = some (.map es.toArray clock) := by rw [hw, hg]
      simp only [Instr.lookup, Sem.run_bind, run_underlying h2, Result.andThen_ok, MapKept.run_getObj_map hg', Sem.run_pure, hck, Instr.findKey, run_underlying hk2, f1]
    · refine ⟨ei.zero, false, by rw [f4]; exact hzr, f3.symm, fun w' hw => ?_⟩
      have hg' : w'.heap[g]? = some (.map es.toArray clock) := by rw [hw, hg]
      simp only [Instr.lookup, Sem.run_bind, run_underlying h2, Result.andThen_ok, MapKept.run_getObj_map hg', Sem.run_pure, hck, Instr.findKey, run_underlying hk2, f1, hzv]
  subst hob
  have hbl : ∀ w', Below w.heap.size w w' → w'.heap[g]? = w.heap[g]? := fun w' hb => hb.block g (Array.getElem?_eq_some_iff.mp hg).1
  have hlt : g < w.heap.size := (Array.getElem?_eq_some_iff.mp hg).1
  cases ok with
  | true =>
    refine ⟨_, _, h, .tup _ #[v, .bool (mhas ents n)] rfl (fun i c u h1 h2 => ?_), fun w' o' hb ho => ?_⟩
    · match i with
      | 0 => simp at h1 h2; subst h1; subst h2; exact hv
      | 1 => simp at h1 h2; subst h1; subst h2; exact relV_lit _ _ _ rfl
      | i + 2 => simp at h1
    · have hl := hlk w' (hbl w' hb)
      simp only [if_true] at hl
      simp only [execOp, ho, hex, eval_lit hS hix, Sem.run_bind, hl, Result.andThen_ok, Sem.run_pure]
  | false =>
    refine ⟨_, _, h, hv, fun w' o' hb ho => ?_⟩
    have hl := hlk w' (hbl w' hb)
    simp only [Bool.false_eq_true, if_false] at hl
    simp only [execOp, ho, hex, eval_lit hS hix, Sem.run_bind, hl, Result.andThen_ok, Sem.run_pure]

omit DW in
theorem len_rows {w : World} {A : List (Option RI)} {F : Fo} (hR : Roots w A F) {v : V} {u : Value} (hv : RelV w A v u) {rows : List (List D)} (hr : rowsV F v = some rows) :
    ∃ p cap, u = .slice p rows.length cap := by
  cases hv with
  | d x _ h =>
    cases h with
    | lit v hv => simp [rowsV] at hr
    | empty p cap hp => simp only [rowsV, Option.some.injEq] at hr; subst hr; exact ⟨p, cap, rfl⟩
    | arr rows' b o es cap g _ _ _ _ _ _ _ => simp only [rowsV, Option.some.injEq] at hr; subst hr; exact ⟨_, cap, rfl⟩
  | sl r v e es hA u hv' =>
    simp only [rowsV] at hr
    split at hr
    · rename_i e1 es1 rows' hroot
      injection hr with hr
      subst hr
      obtain ⟨ri, g1, g2⟩ := hR.rel r _ (root_get hroot)
      rw [hA] at g1
      injection g1 with g1; injection g1 with g1
      subst g1
      obtain ⟨rfl, rfl, hes, hl, xs, how, hrep⟩ := g2
      rcases how.2 with ⟨rfl, hz⟩ | ⟨g, cap, cur, rfl, _⟩
      · obtain ⟨_, rfl | ⟨_, p, rfl⟩⟩ := hv'
        · exact ⟨none, 0, by rw [hz]⟩
        · exact ⟨p, 0, by rw [hz]⟩
      · obtain ⟨_, rfl | ⟨hc, _⟩⟩ := hv'
        case inr => cases hc
        exact ⟨_, cap, rfl⟩
    · simp at hr
  | agg cs vs hn h => simp [rowsV] at hr
  | tup cs vs hn h => simp [rowsV] at hr
  | bp r j g h => simp [rowsV] at hr
  | ptr r i j g n cap es e h => simp [rowsV] at hr
  | rp rows i j b o es cap h hes => simp [rowsV] at hr
  | clo f cs vs hn h => simp [rowsV] at hr
  | tl r i g n cap es e hA hi hc =>
    simp only [rowsV] at hr
    split at hr
    · rename_i e1 es1 rows' hroot
      injection hr with hr
      subst hr
      obtain ⟨ri, g1, g2⟩ := hR.rel r _ (root_get hroot)
      rw [hA] at g1
      injection g1 with g1; injection g1 with g1
      subst g1
      obtain ⟨rfl, rfl, hes, hl, xs, how, hrep⟩ := g2
      rcases how.2 with ⟨he, _⟩ | ⟨g', cap', cur, he, _, ⟨fz, hh, hmk⟩, hnc, hcm, hcs, htake⟩
      · simp at he
      simp only [Value.slice.injEq, Option.some.injEq, Addr.mk.injEq, and_true, true_and] at he
      obtain ⟨rfl, rfl, rfl⟩ := he
      exact ⟨_, _, by rw [List.length_drop]⟩
    · simp at hr
  | e0 p => simp [rowsV] at hr
  | lst T cs vs g hg hf h1 hn h => simp [rowsV] at hr
  | mp r g h => simp [rowsV] at hr
  | dead v => simp [rowsV] at hr
  | nsl => simp [rowsV] at hr
  | nptr => simp [rowsV] at hr
  | ns r i v T n us u0 hA hi hu u hs =>
    simp only [rowsV] at hr
    split at hr
    case h_2 => simp at hr
    rename_i T' n' rows' hroot
    split at hr
    case h_2 => simp at hr
    rename_i row hrow
    split at hr
    case h_2 => simp at hr
    rename_i rws hc
    injection hr with hr
    subst hr
    obtain ⟨rfl, h0, hl, ys, how, hrep⟩ := ns_own hR hA hi hu hroot hrow hc
    rcases how.2 with ⟨rfl, hz⟩ | ⟨g, cap, cur, rfl, _⟩
    · obtain ⟨_, rfl | ⟨_, p, rfl⟩⟩ := hs
      · exact ⟨none, 0, by rw [hz]⟩
      · exact ⟨p, 0, by rw [hz]⟩
    · obtain ⟨_, rfl | ⟨hc, _⟩⟩ := hs
      case inr => cases hc
      exact ⟨_, cap, rfl⟩
  | np => simp [rowsV] at hr
  | nt => simp [rowsV] at hr

omit DW in
theorem len_rel {w : World} {A : List (Option RI)} {F : Fo} (hR : Roots w A F) {v : V} {u : Value} (hv : RelV w A v u) {n : Nat} (hr : lenV F v = some n) : ∃ p cap, u = .slice p n cap := by
  unfold lenV at hr
  split at hr
  · split at hr
    case h_2 => simp at hr
    rename_i r _ T' n' rows hroot
    injection hr with hr
    subst hr
    obtain ⟨ri, g1, g2⟩ := hR.rel r _ (root_get hroot)
    cases hv with
    | nsl _ v T n0 us hA _ hs =>
      rw [hA] at g1
      injection g1 with g1; injection g1 with g1
      subst g1
      obtain ⟨rfl, rfl, hn⟩ := g2
      obtain ⟨xs, how, _⟩ := hn.rep
      rcases how.2 with ⟨rfl, hz⟩ | ⟨g, cap, cur, rfl, _⟩
      · obtain ⟨_, rfl | ⟨_, p, rfl⟩⟩ := hs
        · exact ⟨none, 0, by rw [hz]⟩
        · exact ⟨p, 0, by rw [hz]⟩
      · obtain ⟨_, rfl | ⟨hc, _⟩⟩ := hs
        case inr => cases hc
        exact ⟨_, cap, rfl⟩
  · split at hr
    case h_2 => simp at hr
    rename_i rows hrr
    injection hr with hr
    subst hr
    exact len_rows hR hv hrr

theorem gives_max (hS : Slots w A t a.tmps) (c : Call) {x y : Operand} (hc : c.callee = .builtin .max) (hx : c.args.toList = [x, y]) (h : (match val t x, val t y with
      | .d (.lit (.int j m)), .d (.lit (.int _ n)) => k (.d (.lit (.int j (if n > m then n else m))))
      | .d (.lit (.string m)), .d (.lit (.string n)) => k (.d (.lit (.string (maxS m n))))
      | _, _ => none) = some r) : Gives P w A a (.call c) k r := by
  have hargs : c.args = #[x, y] := by apply Array.ext'; simpa using hx
  split at h
  case h_3 => simp at h
  · rename_i j m j' n h1 h2
    refine ⟨_, _, h, relV_lit _ _ _ rfl, fun w' o hb ho => ?_⟩
    simp only [execOp, ho, Sem.run_bind, resolve, hc, hargs]
    simp [eval_lit hS h1, eval_lit hS h2, invoke, builtin, run_max_int2]
  · rename_i m n h1 h2
    refine ⟨_, _, h, relV_lit _ _ _ rfl, fun w' o hb ho => ?_⟩
    simp only [execOp, ho, Sem.run_bind, resolve, hc, hargs]
    simp [eval_lit hS h1, eval_lit hS h2, invoke, builtin, Builtin.max_, Builtin.max2, Op.stringOp, asBool, maxS]

theorem gives_min (hS : Slots w A t a.tmps) (c : Call) {x y : Operand} (hc : c.callee = .builtin .min) (hx : c.args.toList = [x, y]) (h : (match val t x, val t y with
      | .d (.lit (.int j m)), .d (.lit (.int _ n)) => k (.d (.lit (.int j (if n < m then n else m))))
      | .d (.lit (.string m)), .d (.lit (.string n)) => k (.d (.lit (.string (minS m n))))
      | _, _ => none) = some r) : Gives P w A a (.call c) k r := by
  have hargs : c.args = #[x, y] := by apply Array.ext'; simpa using hx
  split at h
  case h_3 => simp at h
  · rename_i j m j' n h1 h2
    refine ⟨_, _, h, relV_lit _ _ _ rfl, fun w' o hb ho => ?_⟩
    simp only [execOp, ho, Sem.run_bind, resolve, hc, hargs]
    simp [eval_lit hS h1, eval_lit hS h2, invoke, builtin, run_min_int2]
  · rename_i m n h1 h2
    refine ⟨_, _, h, relV_lit _ _ _ rfl, fun w' o hb ho => ?_⟩
    simp only [execOp, ho, Sem.run_bind, resolve, hc, hargs]
    simp [eval_lit hS h1, eval_lit hS h2, invoke, builtin, Builtin.min_, Builtin.min2, Op.stringOp, asBool, minS]

theorem gives_len (hE : EnvOK E P) (hR : Roots w A F) (hS : Slots w A t a.tmps) (c : Call) (h : opQ E t F (.call c) k = some r) : Gives P w A a (.call c) k r := by
  simp only [opQ] at h
  split at h
  rotate_left
  · rename_i x y hc hx
    exact gives_max hS c hc hx h
  · rename_i x y hc hx
    exact gives_min hS c hc hx h
  · simp at h
  rename_i x ty hc hx hty
  have hargs : c.args = #[x] := by apply Array.ext'; simpa using hx
  have htys : c.argTypes = #[ty] := by apply Array.ext'; simpa using hty
  split at h
  case h_2 => simp at h
  rename_i i hi
  obtain ⟨_, _, h2, _⟩ := hE.ty _ _ hi
  split at h
  · rename_i hd
    rw [hd] at h2
    split at h
    case h_2 => simp at h
    rename_i s hs
    refine ⟨_, _, h, relV_lit _ _ _ rfl, fun w' o hb ho => ?_⟩
    have e : (Builtin.len_ #[ty] o.type #[.string s]).run P w' = .ok (.int .i64 s.size) w' := by
      simp [Builtin.len_, run_underlying h2, goInt]
    simp only [execOp, ho, Sem.run_bind, resolve, hc, hargs, htys]
    simp [eval_lit hS hs, invoke, builtin, e]
  · rename_i e0 hd
    rw [hd] at h2
    split at h
    case h_2 => simp at h
    rename_i rows hr
    obtain ⟨p, cap, he⟩ := len_rel hR (val_rel hS x) hr
    refine ⟨_, _, h, relV_lit _ _ _ rfl, fun w' o hb ho => ?_⟩
    have e : (Builtin.len_ #[ty] o.type #[.slice p rows cap]).run P w' = .ok (.int .i64 rows) w' := by
      simp [Builtin.len_, run_underlying h2, goInt]
    simp only [execOp, ho, Sem.run_bind, resolve, hc, hargs, htys]
    simp [he, invoke, builtin, e]
  · simp at h

/-- All of them. -/
theorem opQ_sound (hE : EnvOK E P) (hR : Roots w A F) (hS : Slots w A t a.tmps) (op : Op) (h : opQ E t F op k = some r) : Gives P w A a op k r := by
  cases op with
  | move x => exact gives_move hS x h
  | assign x => exact gives_assign hS x h
  | pick c x y => exact gives_pick hS c x y h
  | load ty x => exact gives_load hE hR hS ty x h
  | nilCheck x => exact gives_nil hS x h
  | binOp b ty x y ty' => exact gives_bin hE hS b ty x y ty' h
  | unOp u ty x => exact gives_un hS u ty x h
  | convert src dst x => exact gives_convert hE hR hS src dst x h
  | makeFunc fn first caps =>
    cases fn with
    | func f => exact gives_func hS f first caps h
    | _ => simp [opQ] at h
  | fieldAddr s x f => exact gives_fieldAddr hE hS s x f h
  | field s x f => exact gives_field hE hS s x f h
  | indexAddr ty x ix => exact gives_indexAddr hE hR hS ty x ix h
  | index ty x ix => exact gives_index hE hS ty x ix h
  | lookup ty x ix ok => exact gives_lookup hE hR hS ty x ix ok h
  | slice ty x lo hi mx => exact gives_slice hE hS ty x lo hi mx h
  | extract x i => exact gives_extract hS x i h
  | build ty ps => exact gives_build hE hS ty ps h
  | call c => exact gives_len hE hR hS c h
  | _ => simp [opQ] at h

end
end Go.Proofs.YtjnhclnnobejgaaE

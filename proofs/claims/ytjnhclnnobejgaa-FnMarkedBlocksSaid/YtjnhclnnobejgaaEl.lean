/- The engine, twelfth part: calls do on the machine what the interpreter says; conditions: the tables are the program's own, and the callees do. -/
import Derived.Test.YtjnhclnnobejgaaEk
namespace Go.Proofs.YtjnhclnnobejgaaE
open Go.RowKit
set_option linter.unusedVariables false
set_option linter.unusedSimpArgs false
variable [DW : Drw]

/-- The callees do what the interpreter says. -/
def CallOK (P : Program) (call : Ca) : Prop := ∀ f args F v F1, call f args F = some (v, F1) → (∃ fu, P.funcs[f]? = some fu ∧ fu.body.isNone = false ∧ (fu.name == "runtime.NumGoroutine") = false) ∧
  ∀ (B : Bad) (w : World) (A : List (Option RI)) (vals : Array Value), @Roots B w A F → args.length = vals.size → (∀ (i : Nat) (c : V) (u : Value), args[i]? = some c → vals[i]? = some u → @RelV B w A c u) →
    Calls P f vals w (CallPost B A w v F1)

section
variable [B : Bad]
variable {R : Type} {E : Env} {P : Program} {w : World} {A : List (Option RI)} {F : Fo} {t : List V} {a : Act} {o : Oper} {k : V → List V → Fo → Option R} {r : R} {call : Ca}

omit DW in
theorem frzAll_sound {Q : Type} {q : Q} {us : List Value} : ∀ (rs : List Nat) (vs t : List V) (F : Fo) (A : List (Option RI)) (k : List V → List V → Fo → Option Q), frzAll rs vs t F k = some q → Roots w A F → Slots w A t a.tmps → RelL w A vs us →
    ∃ vs' t' F' A', k vs' t' F' = some q ∧ Roots w A' F' ∧ Slots w A' t' a.tmps ∧ RelL w A' vs' us ∧ Grows A A' w ∧ (∀ (r : Nat), A[r]? = some none → A'[r]? = some none) ∧ (∀ b, Own A' b → Own A b)
  | [], vs, t, F, A, k, h, hR, hS, hV => ⟨vs, t, F, A, h, hR, hS, hV, .refl _ _, fun _ h => h, fun _ h => h⟩
  | s :: rs, vs, t, F, A, k, h, hR, hS, hV => by
    simp only [frzAll, forceAll_eq, forceF_eq] at h
    split at h
    · rename_i e es rows hroot
      obtain ⟨v1, es1, g1, g2, g3, g4⟩ := frz_all hR hroot
      have hV' : RelL w (A.set s none) (frz s rows vs) us := by
        refine ⟨by unfold frz; rw [subL_eq]; simpa using hV.1, fun i c v hc hv => ?_⟩
        unfold frz at hc
        rw [subL_eq, List.getElem?_map, Option.map_eq_some_iff] at hc
        obtain ⟨c0, hc0, rfl⟩ := hc
        exact g4 (hV.2 i c0 v hc0 hv)
      obtain ⟨vs', t', F', A', h1, h2, h3, h4, h5, h6, h7⟩ := frzAll_sound rs _ _ _ _ k h g3 (hS.sub g4) hV'
      refine ⟨vs', t', F', A', h1, h2, h3, h4, (Grows.drop A w s).trans h5 (Nat.le_refl _) h6, fun r hr => h6 r ?_, fun b ho => own_drop (h7 b ho)⟩
      by_cases hss : r = s
      · subst hss; rw [g1] at hr; simp at hr
      · rw [List.getElem?_set_ne (fun e => hss e.symm)]; exact hr
    · rename_i T n rows hroot
      obtain ⟨v1, us1, g1, g2, g3, g4⟩ := frzN_all hR hroot
      have hV' : RelL w (A.set s none) (frz s rows vs) us := by
        refine ⟨by unfold frz; rw [subL_eq]; simpa using hV.1, fun i c v hc hv => ?_⟩
        unfold frz at hc
        rw [subL_eq, List.getElem?_map, Option.map_eq_some_iff] at hc
        obtain ⟨c0, hc0, rfl⟩ := hc
        exact g4 (hV.2 i c0 v hc0 hv)
      obtain ⟨vs', t', F', A', h1, h2, h3, h4, h5, h6, h7⟩ := frzAll_sound rs _ _ _ _ k h g3 (hS.sub g4) hV'
      refine ⟨vs', t', F', A', h1, h2, h3, h4, (Grows.drop A w s).trans h5 (Nat.le_refl _) h6, fun r hr => h6 r ?_, fun b ho => own_drop (h7 b ho)⟩
      by_cases hss : r = s
      · subst hss; rw [g1] at hr; simp at hr
      · rw [List.getElem?_set_ne (fun e => hss e.symm)]; exact hr
    · exact frzAll_sound rs vs t F A k h hR hS hV

omit DW in
theorem valX_rel (hS : Slots w A t a.tmps) (x : Operand) : RelV w A (valX t x) (a.eval x) := by
  unfold valX
  split
  · exact relV_lit _ _ _ rfl
  · exact val_rel hS _
omit DW in
theorem argsV_rel (hS : Slots w A t a.tmps) (g : FuncId) (xs : List Operand) : RelL w A (argsV E g t xs) (xs.map a.eval) := by
  unfold argsV
  split
  all_goals
    refine ⟨by simp [mapO_eq], fun i x v h1 h2 => ?_⟩
    rw [mapO_eq, List.getElem?_map, Option.map_eq_some_iff] at h1
    obtain ⟨y, hy, rfl⟩ := h1
    rw [List.getElem?_map, hy] at h2
    simp at h2
    subst h2
    first | exact valX_rel hS y | exact val_rel hS y

omit DW in
theorem clo_run (hS : Slots w A t a.tmps) {c : Call} (ho : o.op = .call c) {f : Operand} (hc : c.callee = .value f) {g : FuncId} {caps : List V} (hf : val t f = .clo g caps)
    (hfu : ∃ fu, P.funcs[g]? = some fu ∧ fu.body.isNone = false ∧ (fu.name == "runtime.NumGoroutine") = false) :
    ∃ us : List Value, RelL w A (argsV E g t c.args.toList ++ caps) us ∧ ∀ w', (execOp a.eval o).run P w' = .ok (.enter g us.toArray) w' := by
  have hv := val_rel hS f
  rw [hf] at hv
  generalize he : a.eval f = u at hv
  cases hv with
  | clo _ _ vs hn hcs =>
  refine ⟨c.args.toList.map a.eval ++ vs.toList, ?_, fun w' => ?_⟩
  · refine relL_append (argsV_rel hS g _) ⟨by simpa using hn, fun i x v h1 h2 => hcs i x v h1 (by simpa using h2)⟩
  · obtain ⟨fu, h1, h2, h3⟩ := hfu
    have hcf : ∀ args : Array Value, (callFunc g args).run P w' = .ok (.enter g args) w' := by
      intro args
      unfold callFunc
      simp only [Sem.run_bind, run_program, Result.andThen_ok, h1, h3, h2, Bool.false_eq_true, if_false, Sem.run_pure]
    simp only [execOp, ho, Sem.run_bind, resolve, hc, he, Deferred.ofValue, Sem.run_pure, Result.andThen_ok, invoke, hcf]
    congr 2
    apply Array.ext'
    simp

theorem Roots.below {w w' : World} (h : Roots w A F) (hb : Below w.heap.size w w') : Roots w' A F :=
  ⟨h.len, h.inj, fun r R hr => by
    obtain ⟨ri, g1, g2⟩ := h.rel r R hr
    exact ⟨ri, g1, g2.mono (fun b _ hlt => hb.block b hlt) (fun _ hf _ => hf) (fun _ _ hx => hx) (fun b hbk => hb.block b (h.lt b ⟨r, ri, g1, hbk⟩))⟩, h.gone, fun b ho => Nat.lt_of_lt_of_le (h.lt b ho) hb.size, h.ok, fun b hbd => Nat.lt_of_lt_of_le (h.bad b hbd) hb.size⟩
theorem Slots.below {w w' : World} {tm : Array Value} (h : Slots w A t tm) (hb : Below w.heap.size w w') : Slots w' A t tm := h.mono (fun b _ hlt => hb.block b hlt) (fun _ hf _ => hf) (fun _ _ hx => hx)

omit B in
omit DW in
theorem scal_all : ∀ {cs : List V}, scalL cs = true → ∀ c ∈ cs, scalV c = true
  | [], _, c, h => by simp at h
  | x :: cs, h, c, hc => by
    simp only [scalL] at h
    split at h
    · rename_i hx
      rcases List.mem_cons.mp hc with rfl | hc
      · exact hx
      · exact scal_all h c hc
    · simp at h

omit DW in
theorem scal_rel {B2 : Bad} {w2 : World} {A2 : List (Option RI)} {v : V} {u : Value} (h : @RelV B2 w2 A2 v u) (hs : scalV v = true) : @RelV B w A v u := by
  induction h with
  | d x v h =>
    cases h with
    | lit v hv => exact @RelV.d B _ _ _ _ (.lit _ hv)
    | empty p cap hp => simp [scalV] at hs
    | arr rows b o es cap g => simp [scalV] at hs
  | agg cs vs hn h ih => exact @RelV.agg B _ _ cs vs hn (fun i c v h1 h2 => ih i c v h1 h2 (scal_all (by simpa [scalV] using hs) c (List.mem_of_getElem? h1)))
  | tup cs vs hn h ih => exact @RelV.tup B _ _ cs vs hn (fun i c v h1 h2 => ih i c v h1 h2 (scal_all (by simpa [scalV] using hs) c (List.mem_of_getElem? h1)))
  | bp r j g h => simp [scalV] at hs
  | ptr r i j g n cap es e h => simp [scalV] at hs
  | sl r v e es h u hv => simp [scalV] at hs
  | e0 p => simp [scalV] at hs
  | lst T cs vs g hg hf h1 hn h => simp [scalV] at hs
  | mp r g h => simp [scalV] at hs
  | rp rows i j b o es cap h hes => simp [scalV] at hs
  | clo f cs vs hn h => simp [scalV] at hs
  | tl r i g n cap es e h hi hc => simp [scalV] at hs
  | nsl r v T n vs h u hsl => simp [scalV] at hs
  | nptr r i j g m cap T n vs h => simp [scalV] at hs
  | ns r i v T n vs u0 h hi hu u hsl => simp [scalV] at hs
  | np r i k c v T n vs g o m cap h hi hu => simp [scalV] at hs
  | nt r i m' v T n vs p m cap h hi hu hm => simp [scalV] at hs
  | dead v => simp [scalV] at hs

omit B in
omit DW in
theorem svals_eq : ∀ cs, svals cs = cs.map sval
  | [] => by simp [svals]
  | c :: cs => by simp [svals, svals_eq cs]

omit B in
omit DW in
theorem scal_val {B2 : Bad} {w2 : World} {A2 : List (Option RI)} {v : V} {u : Value} (h : @RelV B2 w2 A2 v u) (hs : scalV v = true) : u = sval v := by
  have arr : ∀ (cs : List V) (vs : Array Value), cs.length = vs.size → (∀ (i : Nat) (c : V) (v : Value), cs[i]? = some c → vs[i]? = some v → v = sval c) → vs = (svals cs).toArray := by
    intro cs vs hn hc
    rw [svals_eq]
    apply Array.ext (by simpa using hn.symm)
    intro i h3 h4
    have hi : i < cs.length := by omega
    have := hc i cs[i] vs[i] (by simp [hi]) (by simp [h3])
    simpa using this
  induction h with
  | d x v h =>
    cases h with
    | lit v hv => rw [sval]
    | empty p cap hp => simp [scalV] at hs
    | arr rows b o es cap g => simp [scalV] at hs
  | agg cs vs hn h ih =>
    rw [sval, ← arr cs vs hn (fun i c v h1 h2 => ih i c v h1 h2 (scal_all (by simpa [scalV] using hs) c (List.mem_of_getElem? h1)))]
  | tup cs vs hn h ih =>
    rw [sval, ← arr cs vs hn (fun i c v h1 h2 => ih i c v h1 h2 (scal_all (by simpa [scalV] using hs) c (List.mem_of_getElem? h1)))]
  | bp r j g h => simp [scalV] at hs
  | ptr r i j g n cap es e h => simp [scalV] at hs
  | sl r v e es h u hv => simp [scalV] at hs
  | e0 p => simp [scalV] at hs
  | lst T cs vs g hg hf h1 hn h => simp [scalV] at hs
  | mp r g h => simp [scalV] at hs
  | rp rows i j b o es cap h hes => simp [scalV] at hs
  | clo f cs vs hn h => simp [scalV] at hs
  | tl r i g n cap es e h hi hc => simp [scalV] at hs
  | nsl r v T n vs h u hsl => simp [scalV] at hs
  | nptr r i j g m cap T n vs h => simp [scalV] at hs
  | ns r i v T n vs u0 h hi hu u hsl => simp [scalV] at hs
  | np r i k c v T n vs g o m cap h hi hu => simp [scalV] at hs
  | nt r i m' v T n vs p m cap h hi hu hm => simp [scalV] at hs
  | dead v => simp [scalV] at hs

omit DW in
theorem free_nil {b : Nat} (h : Free A b) : Free ([] : List (Option RI)) b := ⟨fun ⟨r, x, h1, _⟩ => by simp at h1, h.2⟩

omit DW in
theorem lendCells_rel (hR : Roots w A F) : ∀ {cs : List V} {ds : List D}, lendCells F cs = some ds → ∀ {vs : List Value}, RelL w A cs vs → RepL w (Free ([] : List (Option RI))) ds vs
  | [], ds, h, vs, hr => by
    simp only [lendCells, Option.some.injEq] at h
    subst h
    have : vs = [] := List.eq_nil_of_length_eq_zero hr.1.symm
    subst this
    exact RepL.nil _ _
  | c :: cs, ds, h, [], hr => by simp [RelL] at hr
  | c :: cs, ds, h, v :: vs, hr => by
    simp only [lendCells] at h
    split at h
    case h_2 => simp at h
    rename_i x hx
    split at h
    case h_2 => simp at h
    rename_i ds' hds
    injection h with h
    subst h
    have ih := lendCells_rel hR hds (vs := vs) ⟨by simpa using hr.1, fun i c v h1 h2 => hr.2 (i + 1) c v (by simpa using h1) (by simpa using h2)⟩
    have h0 := hr.2 0 c v rfl rfl
    have hx' : Rep w (Free ([] : List (Option RI))) x v := by
      split at hx
      · injection hx with hx
        subst hx
        cases h0 with
        | d _ _ h => exact h.mono (fun _ _ _ => rfl) (fun b hf _ => free_nil hf)
      · rename_i r
        split at hx
        case h_2 => simp at hx
        rename_i e es rows hroot
        injection hx with hx
        subst hx
        cases h0 with
        | sl _ _ e' es' hA _ hv =>
        obtain ⟨v1, es1, g1, g2, _, _⟩ := frz_all hR hroot
        rw [hA] at g1
        injection g1 with g1; injection g1 with g1; injection g1 with g1
        subst g1
        exact (g2.slOf hv).mono (fun _ _ _ => rfl) (fun b hf _ => free_nil hf)
      · rename_i r
        split at hx
        case h_2 => simp at hx
        rename_i T n rows hroot
        injection hx with hx
        subst hx
        cases h0 with
        | nsl _ v T' n' us hA _ hs =>
        obtain ⟨v1, us1, g1, g2, _, _⟩ := frzN_all hR hroot
        rw [hA] at g1
        injection g1 with g1; injection g1 with g1; injection g1 with g1
        subst g1
        exact (g2.slOf hs).mono (fun _ _ _ => rfl) (fun b hf _ => free_nil hf)
      · simp at hx
    refine ⟨by simp [ih.1], fun i y u g1 g2 => ?_⟩
    cases i with
    | zero => simp at g1 g2; subst g1; subst g2; exact hx'
    | succ i => exact ih.2 i y u (by simpa using g1) (by simpa using g2)

omit DW in
/-- A row with slices lent. -/
theorem lendN (hR : Roots w A F) {B' : Bad} {A' : List (Option RI)} (hf : ∀ b, ¬ B.bad b → @Free B' A' b) {r : Nat} {v : Value} {T : NT} {n : Nat} {vs : List Value} (hA : A[r]? = some (some (.nst v T n vs))) :
    @SubN B' w A' (lendS F r) (.nst v T n vs) v := by
  unfold lendS
  split
  · rename_i e' es' rows hroot
    obtain ⟨ri, r1, r2⟩ := @Roots.rel B _ _ _ hR r _ (root_get hroot)
    rw [hA] at r1
    injection r1 with r1; injection r1 with r1
    subst r1
    exact r2.elim
  · rename_i T' n' rows hroot
    obtain ⟨v1, us1, g1, g2⟩ := @nst_at B _ _ _ hR _ _ _ _ hroot
    rw [hA] at g1
    injection g1 with g1; injection g1 with g1; injection g1 with e1 e2 e3 e4
    subst e1; subst e2; subst e3; subst e4
    obtain ⟨hrep, hin⟩ := g2.rep_all (S' := @Free B' A') (fun b hb => hf b hb.2) (fun b hb => hf b (@Roots.ok B _ _ _ hR b ⟨r, _, hA, hb⟩))
    refine ⟨⟨rows, rfl⟩, hrep, fun i u hi hu => ?_⟩
    obtain ⟨row, y, k1, k2, k3⟩ := hin i u hi hu
    exact ⟨rows, row, y, rfl, k1, k2, k3⟩
  · trivial

omit DW in
/-- Values lent to a callee that only looks. -/
theorem lend_rel (hR : Roots w A F) {c : V} {v : Value} (h : RelV w A c v) : RelV w ([] : List (Option RI)) (subV (lendS F) (fun _ _ _ => .dead) (lendB F) c) v := by
  refine sub_rel (fun _ _ _ => rfl) (fun b hf _ => free_nil hf) (fun r v e es hA u hv => ?_) (fun _ _ _ _ _ _ _ _ _ => .dead _) (fun r j g hA => ?_) (fun r v T n vs hA => ?_) h
  · unfold lendS
    split
    · rename_i e' es' rows hroot
      obtain ⟨v1, es1, g1, g2, _, _⟩ := frz_all hR hroot
      rw [hA] at g1
      injection g1 with g1; injection g1 with g1; injection g1 with g1
      subst g1
      refine .d _ _ ((g2.slOf hv).mono (fun _ _ _ => rfl) (fun b hf _ => ⟨fun ⟨r, x, h1, _⟩ => by simp at h1, hf.2⟩))
    · rename_i T n rows hroot
      obtain ⟨v1, us1, g1, _⟩ := nst_at hR hroot
      rw [hA] at g1
      simp at g1
    · exact .dead _
  · unfold lendB
    split
    · rename_i c cs hroot
      split
      · rename_i ds hds
        obtain ⟨ri, r1, r2⟩ := hR.rel r _ (root_get hroot)
        rw [hA] at r1
        injection r1 with r1; injection r1 with r1
        subst r1
        obtain ⟨cells, e, hh, hrel⟩ := r2
        have hrep := lendCells_rel hR hds hrel
        have hlen : ds.length = cells.size := by have := hrep.1; simpa using this
        have hpos : 0 < ds.length := by have := hrel.1; rw [hlen]; simp at this; omega
        have hR2 : Rep w (Free ([] : List (Option RI))) (.arr [ds]) (.slice (some ⟨g, 0, none⟩) [ds].length 1) := by
          refine .arr [ds] g 0 ds.length 1 (fun i => cells.toList.getD i undef) ⟨fun ⟨r, x, h1, _⟩ => by simp at h1, hR.ok g ⟨r, _, hA, rfl⟩⟩ hpos (fun row hrow => by simp at hrow; rw [hrow]) (by unfold maxLen; simp) (by simp) (fun i hi => ?_) (fun i x hx => ?_)
          · have hi' : i < cells.size := by rw [← hlen]; simpa using hi
            simp only [World.cell?, hh, Nat.zero_add]
            simp [hi']
          · have hx' : ds[i]? = some x := by simpa using hx
            have hi' : i < cells.size := by rw [← hlen]; exact (List.getElem?_eq_some_iff.mp hx').1
            have hv : cells.toList[i]? = some (cells.toList.getD i undef) := by simp [hi']
            exact hrep.2 i x _ hx' hv
        have := RelV.rp (w := w) (A := []) [ds] 0 j g 0 ds.length 1 hR2 (fun row hrow => by simp at hrow; rw [hrow])
        simpa using this
      · exact .dead _
    · exact .dead _
  · exact lendN hR (fun b hb => ⟨fun ⟨r, x, h1, _⟩ => by simp at h1, hb⟩) hA

theorem scal_call (hok : CallOK P call) (hR : Roots w A F) {g : FuncId} {vs : List V} {us : List Value} (hV : RelL w A vs us) {v : V} (hcall : call g (subL (lendS F) (fun _ _ _ => .dead) (lendB F) vs) [] = some (v, []))
    : Calls P g us.toArray w (fun e w' => ∃ u, e = .returned u ∧ @RelV B w' [] v u ∧ Below w.heap.size w w') := by
  have hR0 : Roots w ([] : List (Option RI)) [] := ⟨rfl, fun _ _ _ _ _ h => by simp at h, fun _ _ h => by simp at h, fun _ h => by simp at h, fun b ⟨r, x, h, _⟩ => by simp at h, fun b ⟨r, x, h, _⟩ => by simp at h, hR.bad⟩
  refine ((hok g _ [] v [] hcall).2 B w [] us.toArray hR0 (by rw [subL_eq]; simpa using hV.1) (fun i c u h1 h2 => ?_)).mono ?_
  · rw [subL_eq, List.getElem?_map, Option.map_eq_some_iff] at h1
    obtain ⟨c0, hc0, rfl⟩ := h1
    exact lend_rel hR (hV.2 i c0 u hc0 (by simpa using h2))
  · rintro e w' ⟨u, A', he, h1, h2, h3, h4, h5⟩
    have hA' : A' = [] := List.eq_nil_of_length_eq_zero (by rw [h1.len]; rfl)
    subst hA'
    exact ⟨u, he, h2, ⟨h3.drawn, h3.os, h3.tape, h3.output, h3.size, fun b hb => h3.block b hb (fun ⟨r, x, h, _⟩ => by simp at h)⟩⟩

omit B in
omit DW in
theorem litRow_mem : ∀ {r : List D}, litRow r = true → ∀ x ∈ r, ∃ u, x = D.lit u
  | [], _, x, h => by simp at h
  | y :: r, h, x, hx => by
    cases y with
    | lit u =>
      simp only [litRow] at h
      rcases List.mem_cons.mp hx with rfl | hx
      · exact ⟨u, rfl⟩
      · exact litRow_mem h x hx
    | arr rows => simp [litRow] at h
omit B in
omit DW in
theorem litRows_mem : ∀ {rows : List (List D)}, litRows rows = true → ∀ x ∈ rows.flatten, ∃ u, x = D.lit u
  | [], _, x, h => by simp at h
  | r :: rows, h, x, hx => by
    simp only [litRows] at h
    split at h
    · rename_i hr
      rw [List.flatten_cons] at hx
      rcases List.mem_append.mp hx with h1 | h1
      · exact litRow_mem hr x h1
      · exact litRows_mem h x h1
    · simp at h
omit B in
omit DW in
theorem lit_rep {w w' : World} {S S' : Nat → Prop} {x : D} {v : Value} (h : Rep w S x v) (hx : ∃ u, x = D.lit u) : Rep w' S' x v := by
  obtain ⟨u, rfl⟩ := hx
  cases h with
  | lit _ hv => exact .lit _ hv

omit B in
omit DW in
theorem get_append' {A A1 : List (Option RI)} {r : Nat} {x : Option RI} (h : A[r]? = some x) : (A ++ A1)[r]? = some x := by
  rw [List.getElem?_append_left (List.getElem?_eq_some_iff.mp h).1]; exact h
omit B in
omit DW in
theorem litRowsN_mem {c : Nat} : ∀ {rows : List (List D)}, litRowsN c rows = true → ∀ row ∈ rows, (∃ rws, row[c]? = some (.arr rws) ∧ litRows rws = true) ∧ ∀ (j : Nat) (x : D), j ≠ c → row[j]? = some x → ∃ u, x = D.lit u
  | [], _, row, h => by simp at h
  | r :: rows, h, row, hm => by
    simp only [litRowsN] at h
    split at h
    case h_2 => simp at h
    rename_i rws h1 h2
    split at h
    case h_2 => simp at h
    rename_i h3
    rcases List.mem_cons.mp hm with rfl | hm
    · refine ⟨⟨rws, h2, h3⟩, fun j x hj hx => litRow_mem h1 x ?_⟩
      refine List.mem_of_getElem? (i := j) ?_
      rw [List.getElem?_set_ne (fun e => hj e.symm)]; exact hx
    · exact litRowsN_mem h row hm
omit B in
omit DW in
theorem litF_get : ∀ {F : Fo}, litF F = true → ∀ (r : Nat) (R : Option Root), F[r]? = some R → (∃ e es rows, R = some (.arr e es rows) ∧ litRows rows = true) ∨ (∃ T n rows, R = some (.nst T n rows) ∧ n = rows.length ∧ litRowsN T.c2 rows = true)
  | [], _, r, R, h => by simp at h
  | R0 :: F, h, r, R, hr => by
    simp only [litF] at h
    split at h
    · split at h
      case h_2 => simp at h
      rename_i h1
      cases r with
      | zero => simp at hr; subst hr; exact .inl ⟨_, _, _, rfl, h1⟩
      | succ r => exact litF_get h r R (by simpa using hr)
    · split at h
      case h_2 => simp at h
      rename_i h0 h1
      cases r with
      | zero => simp at hr; subst hr; exact .inr ⟨_, _, _, rfl, Nat.eq_of_beq_eq_true h0, h1⟩
      | succ r => exact litF_get h r R (by simpa using hr)
    · simp at h
omit B in
omit DW in
theorem scalR_all : ∀ {cs : List V}, scalRL cs = true → ∀ c ∈ cs, scalR c = true
  | [], _, c, hc => by simp at hc
  | x :: cs, h, c, hc => by
    simp only [scalRL] at h
    split at h
    · rename_i hx
      rcases List.mem_cons.mp hc with rfl | hc
      · exact hx
      · exact scalR_all h c hc
    · simp at h

omit DW in
/-- What has no data moves behind other roots. -/
theorem scalR_rel {w' : World} {A A1 : List (Option RI)} {v : V} {u : Value} (h : RelV w' A1 v u) (hs : scalR v = true) : RelV w' (A ++ A1) (subV (unS [] A.length) (unP [] A.length) (unB [] A.length) v) u := by
  have get : ∀ (r : Nat) (x : RI), A1[r]? = some (some x) → (A ++ A1)[A.length + (r - 0)]? = some (some x) := fun r x hx => by
    rw [List.getElem?_append_right (by omega), Nat.add_sub_cancel_left]; exact hx
  induction h with
  | d x v h =>
    cases h with
    | lit v hv => rw [subV]; exact .d _ _ (.lit _ hv)
    | empty p cap hp => simp [scalR] at hs
    | arr rows b o es cap g => simp [scalR] at hs
  | agg cs vs hn h ih =>
    rw [subV, subL_eq]
    refine .agg _ vs (by simpa using hn) (fun i c v hc hv => ?_)
    rw [List.getElem?_map, Option.map_eq_some_iff] at hc
    obtain ⟨c0, hc0, rfl⟩ := hc
    exact ih i c0 v hc0 hv (scalR_all (by simpa [scalR] using hs) c0 (List.mem_of_getElem? hc0))
  | tup cs vs hn h ih =>
    rw [subV, subL_eq]
    refine .tup _ vs (by simpa using hn) (fun i c v hc hv => ?_)
    rw [List.getElem?_map, Option.map_eq_some_iff] at hc
    obtain ⟨c0, hc0, rfl⟩ := hc
    exact ih i c0 v hc0 hv (scalR_all (by simpa [scalR] using hs) c0 (List.mem_of_getElem? hc0))
  | sl r v e es h u hv => rw [subV]; exact .sl _ v e es (get r _ h) u hv
  | nsl r v T n vs h u hv => rw [subV]; exact .nsl _ v T n vs (get r _ h) u hv
  | _ => simp [scalR] at hs

/-- A call that only looks at what it is lent, and answers with slices of its own. -/
theorem scal_callO (hok : CallOK P call) (hR : Roots w A F) {g : FuncId} {vs : List V} {us : List Value} (hV : RelL w A vs us) {v : V} {F1 : Fo} (hcall : call g (subL (lendS F) (fun _ _ _ => .dead) (lendB F) vs) [] = some (v, F1))
    (hF : litF F1 = true) (hv : scalR v = true) : Calls P g us.toArray w (fun e w' => ∃ u A', e = .returned u ∧ Roots w' A' (F ++ F1) ∧ RelV w' A' (subV (unS [] F.length) (unP [] F.length) (unB [] F.length) v) u ∧ Step A w w' ∧ Grows A A' w ∧ (∀ (r : Nat), A[r]? = some none → A'[r]? = some none) ∧
      ∀ (r : Nat) (x : RI), A[r]? = some (some x) → A'[r]? = some (some x)) := by
  have hR0 : Roots w ([] : List (Option RI)) [] := ⟨rfl, fun _ _ _ _ _ h => by simp at h, fun _ _ h => by simp at h, fun _ h => by simp at h, fun b ⟨r, x, h, _⟩ => by simp at h, fun b ⟨r, x, h, _⟩ => by simp at h, hR.bad⟩
  refine ((hok g _ [] v F1 hcall).2 B w [] us.toArray hR0 (by rw [subL_eq]; simpa using hV.1) (fun i c u h1 h2 => ?_)).mono ?_
  · rw [subL_eq, List.getElem?_map, Option.map_eq_some_iff] at h1
    obtain ⟨c0, hc0, rfl⟩ := h1
    exact lend_rel hR (hV.2 i c0 u hc0 (by simpa using h2))
  · rintro e w' ⟨u, A1, he, h1, h2, h3, h4, h5⟩
    have hold : ∀ b, b < w.heap.size → w'.heap[b]? = w.heap[b]? := fun b hb => h3.block b hb (fun ⟨r, x, h, _⟩ => by simp at h)
    have hnew : ∀ b, Own A1 b → w.heap.size ≤ b := fun b hb => (h4.own b hb).elim (fun ⟨r, x, h, _⟩ => by simp at h) id
    have hsplit : ∀ {s : Nat} {y : RI}, (A ++ A1)[s]? = some (some y) → (A[s]? = some (some y)) ∨ (A.length ≤ s ∧ A1[s - A.length]? = some (some y)) := by
      intro s y h
      by_cases hs : s < A.length
      · rw [List.getElem?_append_left hs] at h; exact .inl h
      · rw [List.getElem?_append_right (by omega)] at h; exact .inr ⟨by omega, h⟩
    have hfree : ∀ b, Free A b → b < w.heap.size → Free (A ++ A1) b := by
      refine fun b hf hb => ⟨?_, hf.2⟩
      rintro ⟨s, y, g1, g2⟩
      rcases hsplit g1 with h | ⟨_, h⟩
      · exact hf.1 ⟨s, y, h, g2⟩
      · have := hnew b ⟨_, y, h, g2⟩; omega
    have hl : F.length = A.length := hR.len.symm
    refine ⟨u, A ++ A1, he, ⟨by simp [hR.len, h1.len], fun s s' y y' b g1 g2 k1 k2 => ?_, fun s R hs => ?_, fun s hs => ?_, fun b hb => ?_, fun b hb => ?_, fun b hb => Nat.lt_of_lt_of_le (hR.bad b hb) h3.size⟩, by rw [hl]; exact scalR_rel h2 hv,
      ⟨h3.drawn, h3.os, h3.tape, h3.output, h3.size, fun b hb _ => hold b hb⟩, ⟨by simp, fun r x hx => .inl (get_append' hx), fun b hb => ?_⟩, fun r hr => get_append' hr, fun r x hx => get_append' hx⟩
    · rcases hsplit g1 with e1 | ⟨e0, e1⟩ <;> rcases hsplit g2 with e2 | ⟨e3, e2⟩
      · exact hR.inj s s' y y' b e1 e2 k1 k2
      · have a1 := hR.lt b ⟨s, y, e1, k1⟩
        have a2 := hnew b ⟨_, y', e2, k2⟩
        omega
      · have a1 := hR.lt b ⟨s', y', e2, k2⟩
        have a2 := hnew b ⟨_, y, e1, k1⟩
        omega
      · have := h1.inj _ _ y y' b e1 e2 k1 k2; omega
    · by_cases hs1 : s < F.length
      · rw [List.getElem?_append_left hs1] at hs
        obtain ⟨y, g1, g2⟩ := hR.rel s R hs
        exact ⟨y, get_append' g1, g2.mono (fun b _ hb => hold b hb) hfree (fun r x hx => get_append' hx) (fun b hb => hold b (hR.lt b ⟨s, y, g1, hb⟩))⟩
      · rw [List.getElem?_append_right (by omega)] at hs
        obtain ⟨y, g1, g2⟩ := h1.rel _ R hs
        refine ⟨y, by rw [List.getElem?_append_right (by omega), ← hl]; exact g1, ?_⟩
        rcases litF_get hF _ _ hs with ⟨e1, es1, rows, hr, hlit⟩ | ⟨T, n, rows, hr, hnn, hlit⟩
        · injection hr with hr; subst hr
          cases y with
          | box g => exact g2.elim
          | nst => exact g2.elim
          | arr v0 e' es' =>
            obtain ⟨k0, k00, k1, k2, xs, k3, k4⟩ := g2
            exact ⟨k0, k00, k1, k2, xs, k3, k4.1, fun i x y hx hy => lit_rep (k4.2 i x y hx hy) (litRows_mem hlit x (List.mem_of_getElem? hx))⟩
        · injection hr with hr; subst hr
          cases y with
          | box g => exact g2.elim
          | arr => exact g2.elim
          | nst v0 T' n' us' =>
            obtain ⟨rfl, rfl, hn⟩ := g2
            obtain ⟨xs, how, hcs⟩ := hn.rep
            refine ⟨rfl, rfl, hn.c2, hn.es2, hn.le, hn.vl, hn.len, ⟨xs, how, fun i row hrow => ?_⟩, hn.dis⟩
            obtain ⟨⟨y0, u0, uc, c1, c2, c3, c4⟩, c5⟩ := hcs i row hrow
            obtain ⟨⟨rws, d1, d2⟩, d3⟩ := litRowsN_mem hlit row (List.mem_of_getElem? hrow)
            rw [d1] at c1; injection c1 with c1; subst c1
            refine ⟨⟨.arr rws, u0, uc, d1, c2, c3, ?_⟩, fun j x y hj hx hy => lit_rep (c5 j x y hj hx hy) (d3 j x hj hx)⟩
            rcases c4 with ⟨a0, a1, rws', a2, a3, ys, a4, a5⟩ | ⟨a0, a1⟩
            · injection a2 with a2; subst a2
              exact .inl ⟨a0, a1, rws, rfl, a3, ys, a4, a5.1, fun i x y hx hy => lit_rep (a5.2 i x y hx hy) (litRows_mem d2 x (List.mem_of_getElem? hx))⟩
            · have := (List.getElem?_eq_some_iff.mp hrow).1; omega
    · by_cases hs1 : s < F.length
      · rw [List.getElem?_append_left hs1] at hs
        exact get_append' (hR.gone s hs)
      · rw [List.getElem?_append_right (by omega)] at hs
        rcases litF_get hF _ _ hs with ⟨_, _, _, hr, _⟩ | ⟨_, _, _, hr, _⟩ <;> simp at hr
    · obtain ⟨s, y, g1, g2⟩ := hb
      rcases hsplit g1 with h | ⟨_, h⟩
      · exact Nat.lt_of_lt_of_le (hR.lt b ⟨s, y, h, g2⟩) h3.size
      · exact h1.lt b ⟨_, y, h, g2⟩
    · obtain ⟨s, y, g1, g2⟩ := hb
      rcases hsplit g1 with h | ⟨_, h⟩
      · exact hR.ok b ⟨s, y, h, g2⟩
      · exact h1.ok b ⟨_, y, h, g2⟩
    · obtain ⟨s, y, g1, g2⟩ := hb
      rcases hsplit g1 with h | ⟨_, h⟩
      · exact .inl ⟨s, y, h, g2⟩
      · exact .inr (hnew b ⟨_, y, h, g2⟩)

/-- The same, where it may answer with a new slice. -/
theorem scal_call2 (hok : CallOK P call) (hR : Roots w A F) {g : FuncId} {vs : List V} {us : List Value} (hV : RelL w A vs us) {v v1 : V} {F1 : Fo} (hcall : call g (subL (lendS F) (fun _ _ _ => .dead) (lendB F) vs) [] = some (v, F1))
    (hs : scalEnd v F1 = some v1) : Calls P g us.toArray w (fun e w' => ∃ u, e = .returned u ∧ @RelV B w' A v1 u ∧ Below w.heap.size w w') := by
  have hR0 : Roots w ([] : List (Option RI)) [] := ⟨rfl, fun _ _ _ _ _ h => by simp at h, fun _ _ h => by simp at h, fun _ h => by simp at h, fun b ⟨r, x, h, _⟩ => by simp at h, fun b ⟨r, x, h, _⟩ => by simp at h, hR.bad⟩
  refine ((hok g _ [] v F1 hcall).2 B w [] us.toArray hR0 (by rw [subL_eq]; simpa using hV.1) (fun i c u h1 h2 => ?_)).mono ?_
  · rw [subL_eq, List.getElem?_map, Option.map_eq_some_iff] at h1
    obtain ⟨c0, hc0, rfl⟩ := h1
    exact lend_rel hR (hV.2 i c0 u hc0 (by simpa using h2))
  · rintro e w' ⟨u, A', he, h1, h2, h3, h4, h5⟩
    have hb : Below w.heap.size w w' := ⟨h3.drawn, h3.os, h3.tape, h3.output, h3.size, fun b hb => h3.block b hb (fun ⟨r, x, h, _⟩ => by simp at h)⟩
    refine ⟨u, he, ?_, hb⟩
    unfold scalEnd at hs
    split at hs
    · split at hs
      case h_2 => simp at hs
      rename_i hsc
      injection hs with hs
      subst hs
      exact scal_rel h2 hsc
    · split at hs
      case h_2 => simp at hs
      rename_i r
      split at hs
      case h_2 => simp at hs
      rename_i e0 es rows hroot
      split at hs
      case h_2 => simp at hs
      rename_i hlit
      injection hs with hs
      subst hs
      obtain ⟨ri, r1, r2⟩ := h1.rel r _ (root_get hroot)
      cases h2 with
      | sl _ v0 e' es' hA _ hform =>
      rw [hA] at r1
      injection r1 with r1; injection r1 with r1
      subst r1
      have hown : ∀ b, v0.ownBlock = some b → w.heap.size ≤ b := fun b hbk => by
        rcases h4.own b ⟨r, _, hA, hbk⟩ with ⟨r', x, h, _⟩ | h
        · simp at h
        · exact h
      obtain ⟨v1, es1, g1, g2, _, _⟩ := frz_all h1 hroot
      rw [hA] at g1
      injection g1 with g1; injection g1 with g1; injection g1 with g1
      subst g1
      refine .d _ _ (Rep.slOf ?_ hform)
      generalize hx : D.arr rows = x at g2
      cases g2 with
      | lit v hv => simp at hx
      | empty p cap hp =>
        injection hx with hx
        subst hx
        exact .empty _ _ hp
      | arr rows' b o es2 cap gf hS hes hlen hmax hcap hcell hrep =>
        injection hx with hx
        subst hx
        have hge := hown b rfl
        refine .arr _ b o es2 cap gf ⟨fun ho => ?_, fun hbd => ?_⟩ hes hlen hmax hcap hcell (fun j x hj => lit_rep (hrep j x hj) (litRows_mem hlit x (List.mem_of_getElem? hj)))
        · have := hR.lt b ho; omega
        · have := hR.bad b hbd; omega

/-- An operation's wp, out of what the interpreter hands on. -/
def OpOK (P : Program) (w : World) (A : List (Option RI)) (a : Act) (o : Oper) (k : V → List V → Fo → Option R) (r : R) : Prop :=
  ∀ (K : Act → World → Prop) (Q : Exit → Act → World → Prop), (∀ v u t' F' A' w', k v t' F' = some r → Roots w' A' F' → Slots w' A' t' a.tmps → RelV w' A' v u → Step A w w' → Grows A A' w → (∀ (r : Nat), A[r]? = some none → A'[r]? = some none) →
    K (a.put o.dst u) w') → o.wp P a w K Q

theorem opE_ok (hE : EnvOK E P) (hR : Roots w A F) (hS : Slots w A t a.tmps) (h : opE E t F o k = some r) : OpOK P w A a o k r := by
  intro K Q hK
  obtain ⟨v, u, t', F', A', w', h1, h2, h3, h4, h5, h6, h7, h8⟩ := opE_sound hE hE.zero hR hS h
  have hk := hK v u t' F' A' w' h1 h3 h4 h5 h6 h7 h8
  unfold Oper.wp
  rcases h2 with h2 | ⟨h2, rfl⟩
  · rw [h2]; exact hk
  · rw [h2]; exact hk

theorem opQ_ok (hE : EnvOK E P) (hR : Roots w A F) (hS : Slots w A t a.tmps) (h : opQ E t F o.op (fun v => k v t F) = some r) : OpOK P w A a o k r := by
  intro K Q hK
  obtain ⟨v, u, h1, h2, h3⟩ := opQ_sound hE hR hS o.op h
  have hk := hK v u t F A w h1 hR hS h2 (.refl _ _) (.refl _ _) (fun _ h => h)
  unfold Oper.wp
  rw [h3 w o (Below.refl _ _) rfl]
  exact hk

theorem opC_ok (hE : EnvOK E P) (hok : CallOK P call) (hR : Roots w A F) (hS : Slots w A t a.tmps) {c : Call} (ho : o.op = .call c) (h : opC E call t F c k = some r) : OpOK P w A a o k r := by
  intro K Q hK
  unfold opC at h
  split at h
  case h_2 => simp at h
  rename_i f hc
  split at h
  case h_2 => simp at h
  rename_i g caps hf
  split at h
  · split at h
    case h_2 => simp at h
    rename_i v0 F1 hcall
    obtain ⟨us, hV, hrun⟩ := clo_run (E := E) (P := P) hS ho hc hf (hok _ _ _ _ _ hcall).1
    unfold Oper.wp
    rw [hrun w]
    rw [Oper.upon_enter]
    split at h
    · rename_i v hs
      refine (scal_call2 hok hR hV hcall hs).mono ?_
      rintro e w' ⟨u, rfl, h2, hb⟩
      exact hK v u t F A w' h (hR.below hb) (hS.below hb) h2 (.of_below hb) (.refl _ _) (fun _ h => h)
    · split at h
      case h_2 => simp at h
      rename_i hl1 hl2
      rw [forceC_eq, forceF_eq] at h
      refine (scal_callO hok hR hV hcall hl1 hl2).mono ?_
      rintro e w' ⟨u, A', rfl, h1, h2, h3, h4, h5, hkp⟩
      have hlt : ∀ b, Free A b → b < w.heap.size → w'.heap[b]? = w.heap[b]? := fun b hf hb => h3.block b hb hf.1
      have hfr : ∀ b, Free A b → b < w.heap.size → Free A' b := fun b hf hb => ⟨fun ho => (h4.own b ho).elim hf.1 (fun h => by omega), hf.2⟩
      exact hK _ u t _ A' w' h h1 (hS.mono hlt hfr hkp) h2 h3 h4 h5
  · obtain ⟨us, hV, hrun0⟩ : ∃ us : List Value, RelL w A (argsV E g t c.args.toList ++ caps) us ∧ ((∃ fu, P.funcs[g]? = some fu ∧ fu.body.isNone = false ∧ (fu.name == "runtime.NumGoroutine") = false) → ∀ w', (execOp a.eval o).run P w' = .ok (.enter g us.toArray) w') := by
      have hv := val_rel hS f
      rw [hf] at hv
      generalize he : a.eval f = u at hv
      cases hv with
      | clo _ _ vs hn hcs =>
      refine ⟨c.args.toList.map a.eval ++ vs.toList, ?_, fun hfu => ?_⟩
      · refine relL_append (argsV_rel hS g _) ⟨by simpa using hn, fun i x v h1 h2 => hcs i x v h1 (by simpa using h2)⟩
      · obtain ⟨fu, h1, h2, h3⟩ := hfu
        intro w'
        have hcf : ∀ args : Array Value, (callFunc g args).run P w' = .ok (.enter g args) w' := by
          intro args
          unfold callFunc
          simp only [Sem.run_bind, run_program, Result.andThen_ok, h1, h3, h2, Bool.false_eq_true, if_false, Sem.run_pure]
        simp only [execOp, ho, Sem.run_bind, resolve, hc, he, Deferred.ofValue, Sem.run_pure, Result.andThen_ok, invoke, hcf]
        congr 2
        apply Array.ext'
        simp
    split at h
    · rw [opC.callTake, forceNs_eq] at h
      unfold opC.takeIn at h
      split at h
      case h_2 => simp at h
      rename_i hn
      split at h
      case h_2 => simp at h
      rename_i v F1 hcall
      split at h
      case h_2 => simp at h
      rename_i D hD
      rw [forceNs_eq, forceC_eq, forceAll_eq, forceF_eq] at h
      have hS1 : ∀ b, @Free B A b → b < w.heap.size → @Free (badOf B A (packA (close F 200 (refsL (argsV E g t c.args.toList ++ caps)) []) A)) (packA (close F 200 (refsL (argsV E g t c.args.toList ++ caps)) []) A) b := fun b hf _ => free_badOf (fun ho => packA_own ho) hf
      have hpR := Roots.pack (B1 := badOf B A (packA (close F 200 (refsL (argsV E g t c.args.toList ++ caps)) []) A)) hR hn hS1 (fun b ho hb => by
        rcases hb with hb | hb
        · exact hR.ok b (packA_own ho) hb
        · exact hb.2 ho) (fun b hb => by
        rcases hb with hb | hb
        · exact hR.bad b hb
        · exact hR.lt b hb.1)
      unfold Oper.wp
      rw [hrun0 (hok _ _ _ _ _ hcall).1 w]
      rw [Oper.upon_enter]
      refine ((hok _ _ _ _ _ hcall).2 _ w _ us.toArray hpR (by rw [subL_eq]; simpa using hV.1) (fun i x u g1 g2 => ?_)).mono ?_
      · rw [subL_eq, List.getElem?_map, Option.map_eq_some_iff] at g1
        obtain ⟨c0, hc0, rfl⟩ := g1
        exact pack_sub hS1 (hV.2 i c0 u hc0 (by simpa using g2))
      · rintro e w' ⟨u, A1', rfl, k1, k2, k3, k4, k5⟩
        obtain ⟨A2, m1, m2, m3, m4, m5, m6⟩ := merge2 hR hn k1 k3 k4 k5 (deadOf_len hD) (deadOf_mem hD)
        refine hK _ u _ _ A2 w' h m1 ⟨by rw [subL_eq]; simpa using hS.1, fun i c v g1 g2 => ?_⟩ (m2 k2) m4 m5 m6
        rw [subL_eq, List.getElem?_map, Option.map_eq_some_iff] at g1
        obtain ⟨c0, hc0, rfl⟩ := g1
        exact m3 (hS.2 i c0 v hc0 g2)
    obtain ⟨vs', t', F', A', h1, h2, h3, h4, h5, h6, h7⟩ := frzAll_sound (a := a) _ _ _ _ _ _ h hR hS hV
    rw [opC.callOn, forceNs_eq] at h1
    unfold opC.callIn at h1
    split at h1
    case h_2 => simp at h1
    rename_i hn
    split at h1
    case h_2 => simp at h1
    rename_i v F1 hcall
    split at h1
    case h_2 => simp at h1
    rename_i hall
    rw [forceC_eq, forceF_eq] at h1
    have hS1 : ∀ b, @Free B A' b → b < w.heap.size → @Free (badOf B A' (packA (close F' 200 (refsL vs') []) A')) (packA (close F' 200 (refsL vs') []) A') b := fun b hf _ => free_badOf (fun ho => packA_own ho) hf
    have hpR := Roots.pack (B1 := badOf B A' (packA (close F' 200 (refsL vs') []) A')) h2 hn hS1 (fun b ho hb => by
      rcases hb with hb | hb
      · exact h2.ok b (packA_own ho) hb
      · exact hb.2 ho) (fun b hb => by
      rcases hb with hb | hb
      · exact h2.bad b hb
      · exact h2.lt b hb.1)
    unfold Oper.wp
    rw [hrun0 (hok _ _ _ _ _ hcall).1 w]
    rw [Oper.upon_enter]
    refine ((hok _ _ _ _ _ hcall).2 _ w _ us.toArray hpR (by rw [subL_eq]; simpa using h4.1) (fun i x u g1 g2 => ?_)).mono ?_
    · rw [subL_eq, List.getElem?_map, Option.map_eq_some_iff] at g1
      obtain ⟨c0, hc0, rfl⟩ := g1
      exact pack_sub hS1 (h4.2 i c0 u hc0 (by simpa using g2))
    · rintro e w' ⟨u, A1', rfl, k1, k2, k3, k4, k5⟩
      obtain ⟨A2, m1, m2, m3, m4, m5, m6⟩ := merge h2 hn k1 k3 k4 k5 hall
      refine hK _ u t' _ A2 w' h1 m1 ⟨h3.1, fun i c v g1 g2 => m3 (h3.2 i c v g1 g2)⟩ (m2 k2) ⟨m4.drawn, m4.os, m4.tape, m4.output, m4.size, fun b hb hf => m4.block b hb (fun ho => hf (h7 b ho))⟩ (h5.trans m5 (Nat.le_refl _) m6) (fun r hr => m6 r (h6 r hr))

end
end Go.Proofs.YtjnhclnnobejgaaE

/- The engine, fourteenth part: functions, and what a function comes to when rounds do not count; conditions: the tables are the program's own. -/
import Derived.Test.YtjnhclnnobejgaaEy
namespace Go.Proofs.YtjnhclnnobejgaaE
open Go.RowKit
set_option linter.unusedVariables false
set_option linter.unusedSimpArgs false
variable [DW : Drw]

/-- Several results, or one. -/
def resW : List Value → Value
  | [u] => u
  | us => .tuple us.toArray

theorem res1_sound [B : Bad] {E : Env} {P : Program} (hE : EnvOK E P) {w : World} {A : List (Option RI)} {t : List V} {a : Act} {F : Fo} (hR : Roots w A F) (hS : Slots w A t a.tmps) {r : ResultVar} {v : V} (h : res1 E t F r = some v) :
    ∃ u, RelV w A v u ∧ (match r with
      | .tmp i => (pure (a.tmps.getD i undef) : Sem Value)
      | .cell b ty => do loadVar ty (← asAddr (a.tmps.getD b undef))).run P w = .ok u w := by
  cases r with
  | tmp i =>
    simp only [res1] at h
    injection h with h
    subst h
    exact ⟨_, val_rel hS (.tmp i), by simp only [Sem.run_pure]; rfl⟩
  | cell x ty =>
    simp only [res1, opQ] at h
    split at h
    · simp at h
    · rename_i i hi
      rw [behindK_eq] at h
      split at h
      case h_2 => simp at h
      · rename_i cs hb
        split at h
        case h_2 => simp at h
        rename_i v' hs
        injection h with h
        subst h
        obtain ⟨b, o, vs, hp, hrel, hc⟩ := behind_rel hR (val_rel hS (.tmp x)) hb
        obtain ⟨h1, h2, h3⟩ := shapeV_rel hi (hrel.take i.size) hs
        have hl := load_run (w := w) hE hi (b := b) (o := o) (vs := vs.take i.size) (fun j v hj => by
          rw [List.getElem?_take] at hj
          split at hj
          · exact hc j v hj
          · simp at hj) h2 h3
        refine ⟨_, h1, ?_⟩
        have hp' : a.tmps.getD x undef = .pointer (some ⟨b, o, none⟩) := hp
        simp only [hp']
        simp only [Instr.loadAt, Instr.sureAddr] at hl
        simpa [asAddr] using hl

theorem resV_sound [B : Bad] {E : Env} {P : Program} (hE : EnvOK E P) {w : World} {A : List (Option RI)} {t : List V} {a : Act} {F : Fo} (hR : Roots w A F) (hS : Slots w A t a.tmps) : ∀ (rs : List ResultVar) (vs : List V), resV E t F rs = some vs →
    ∃ us : List Value, RelL w A vs us ∧ (rs.mapM (m := Sem) (fun r => match r with
      | .tmp i => (pure (a.tmps.getD i undef) : Sem Value)
      | .cell b ty => do loadVar ty (← asAddr (a.tmps.getD b undef)))).run P w = .ok us w
  | [], vs, h => by
    simp only [resV] at h
    injection h with h
    subst h
    exact ⟨[], ⟨rfl, fun i c v h => by simp at h⟩, by simp⟩
  | r :: rs, vs, h => by
    simp only [resV] at h
    split at h
    case h_2 => simp at h
    rename_i v hv
    split at h
    case h_2 => simp at h
    rename_i vs' hvs
    injection h with h
    subst h
    obtain ⟨u, h1, h2⟩ := res1_sound hE hR hS hv
    obtain ⟨us, h3, h4⟩ := resV_sound hE hR hS rs vs' hvs
    refine ⟨u :: us, ⟨by simp [h3.1], fun i c x g1 g2 => ?_⟩, ?_⟩
    · cases i with
      | zero => simp at g1 g2; subst g1; subst g2; exact h1
      | succ i => exact h3.2 i c x (by simpa using g1) (by simpa using g2)
    · rw [List.mapM_cons]
      simp only [Sem.run_bind, Result.andThen_ok, Sem.run_pure, h2, h4]

theorem res_sound [B : Bad] {E : Env} {P : Program} (hE : EnvOK E P) {w : World} {A : List (Option RI)} {t : List V} {a : Act} {F : Fo} (hR : Roots w A F) (hS : Slots w A t a.tmps) {fu : Func} {vs : List V} (h : resV E t F fu.results.toList = some vs) :
    ∃ us : List Value, RelL w A vs us ∧ (results fu a.tmps).run P w = .ok (resW us) w := by
  obtain ⟨us, h1, h2⟩ := resV_sound hE hR hS _ _ h
  refine ⟨us, h1, ?_⟩
  unfold results
  rw [show fu.results = fu.results.toList.toArray from by simp, List.mapM_toArray]
  simp only [Sem.run_bind, Result.andThen_ok, Sem.run_pure, map_eq_pure_bind]
  erw [h2]
  match us with
  | [] => rfl
  | [u] => rfl
  | u :: v :: us => simp [resW, Result.andThen_ok]

omit DW in
theorem oneV_rel [B : Bad] {w : World} {A : List (Option RI)} {vs : List V} {us : List Value} (h : RelL w A vs us) : RelV w A (oneV vs) (resW us) := by
  match vs, us, h with
  | [v], [u], h => exact h.2 0 v u rfl rfl
  | [], [], h => exact .tup [] #[] rfl (fun i c v h => by simp at h)
  | v1 :: v2 :: vs, u1 :: u2 :: us, h => exact .tup _ _ (by simpa using h.1) (fun i c v h1 h2 => h.2 i c v h1 (by simpa using h2))
  | [], u :: us, h => simp [RelL] at h
  | v :: vs, [], h => simp [RelL] at h
  | [v], u1 :: u2 :: us, h => simp [RelL] at h
  | v1 :: v2 :: vs, [u], h => simp [RelL] at h

omit DW in
theorem dropAll_sound [B : Bad] {R : Type} {r : R} {w : World} {a : Act} : ∀ (rs : List Nat) (vs t : List V) (F : Fo) (A : List (Option RI)) (k : List V → List V → Fo → Option R) (us : List Value), dropAll rs vs t F k = some r → Roots w A F → Slots w A t a.tmps → RelL w A vs us →
    ∃ vs' t' F' A', k vs' t' F' = some r ∧ Roots w A' F' ∧ Slots w A' t' a.tmps ∧ RelL w A' vs' us ∧ Grows A A' w ∧ (∀ (r : Nat), A[r]? = some none → A'[r]? = some none)
  | [], vs, t, F, A, k, us, h, hR, hS, hV => ⟨vs, t, F, A, h, hR, hS, hV, .refl _ _, fun _ h => h⟩
  | s :: rs, vs, t, F, A, k, us, h, hR, hS, hV => by
    simp only [dropAll] at h
    split at h
    · rename_i e es rows hroot
      rw [forceAll_eq, forceAll_eq, forceF_eq] at h
      obtain ⟨g1, g2⟩ := kill_all hR hroot
      have hv : RelL w (A.set s none) (kill s vs) us := by
        unfold kill
        rw [subL_eq]
        refine ⟨by simpa using hV.1, fun i c v h1 h2 => ?_⟩
        rw [List.getElem?_map, Option.map_eq_some_iff] at h1
        obtain ⟨c0, hc0, rfl⟩ := h1
        exact g2 (hV.2 i c0 v hc0 h2)
      obtain ⟨vs', t', F', A', q1, q2, q3, q4, q5, q6⟩ := dropAll_sound rs _ _ _ _ k us h g1 (hS.sub g2) hv
      refine ⟨vs', t', F', A', q1, q2, q3, q4, (Grows.drop A w s).trans q5 (Nat.le_refl _) q6, fun r hr => q6 r ?_⟩
      by_cases e : r = s
      · subst e
        rw [List.getElem?_set, if_pos rfl, if_pos (List.getElem?_eq_some_iff.mp hr).1]
      · rw [List.getElem?_set_ne (Ne.symm e)]; exact hr
    · exact dropAll_sound rs vs t F A k us h hR hS hV
theorem fin_sound [B : Bad] {E : Env} {P : Program} (hE : EnvOK E P) {w : World} {A : List (Option RI)} {F : Fo} {t : List V} {a : Act} (hR : Roots w A F) (hS : Slots w A t a.tmps) {m : Nat} (hm : m ≤ A.length) {f : FuncId} {fu : Func} {v : V} {F1 : Fo}
    (h : finV E m f fu t F = some (v, F1)) : ∃ u A', (results fu a.tmps).run P w = .ok u w ∧ Roots w A' F1 ∧ RelV w A' v u ∧ PG m A A' w := by
  unfold finV at h
  split at h
  · simp at h
  · rename_i vs hvs
    obtain ⟨us, hV, hrun⟩ := res_sound (P := P) hE hR hS hvs
    obtain ⟨vs0, t0, F0, A0, h, hR0, hS0, hV, q5, q6⟩ : ∃ vs0 t0 F0 A0, frzAll (match memN f E.own with | true => [] | false => uniqN (geN m (slL vs0))) vs0 t0 F0 (fun vs _ F => finV.finOn m (oneV vs) F (close F 400 (upto m 0 ++ refsV (oneV vs)) [])) = some (v, F1) ∧
        Roots w A0 F0 ∧ Slots w A0 t0 a.tmps ∧ RelL w A0 vs0 us ∧ Grows A A0 w ∧ (∀ (r : Nat), A[r]? = some none → A0[r]? = some none) := by
      unfold takeK at h
      split at h
      · obtain ⟨vs1, t1, F1', A1, h, z1, z2, z3, z4, z5⟩ : ∃ vs1 t1 F1' A1, dropAll (upto m 0) vs1 t1 F1' (fun vs t F => frzAll (match memN f E.own with | true => [] | false => uniqN (geN m (slL vs))) vs t F (fun vs _ F => finV.finOn m (oneV vs) F (close F 400 (upto m 0 ++ refsV (oneV vs)) []))) = some (v, F1) ∧
            Roots w A1 F1' ∧ Slots w A1 t1 a.tmps ∧ RelL w A1 vs1 us ∧ Grows A A1 w ∧ (∀ (r : Nat), A[r]? = some none → A1[r]? = some none) := by
          unfold reRootK at h
          split at h
          · split at h
            · rename_i r _ _ e es rows hb hroot
              rw [forceAll_eq, forceF_eq] at h
              have hlen : us.length = 1 := by rw [← hV.1]; rfl
              obtain ⟨u, rfl⟩ : ∃ u, us = [u] := by
                match us, hlen with
                | [u], _ => exact ⟨u, rfl⟩
              obtain ⟨A', g1, g2, g3, g4, g5⟩ := reroot hR hroot (hV.2 0 _ _ rfl rfl)
              refine ⟨_, _, _, A', h, g1, g5 _ _ hS, ⟨rfl, fun i c v k1 k2 => ?_⟩, g3, g4⟩
              match i, k1, k2 with
              | 0, k1, k2 => simp at k1 k2; subst k1; subst k2; exact g2
            · exact ⟨_, t, F, A, h, hR, hS, hV, .refl _ _, fun _ h => h⟩
          · exact ⟨_, t, F, A, h, hR, hS, hV, .refl _ _, fun _ h => h⟩
        obtain ⟨vs2, t2, F2, A2, q1, q2, q3, q4, q5, q6⟩ := dropAll_sound (a := a) _ _ _ _ _ _ _ h z1 z2 z3
        exact ⟨vs2, t2, F2, A2, q1, q2, q3, q4, z4.trans q5 (Nat.le_refl _) q6, fun r hr => q6 r (z5 r hr)⟩
      · exact ⟨_, t, F, A, h, hR, hS, hV, .refl _ _, fun _ h => h⟩
    obtain ⟨vs', t', F', A', h1, h2, h3, h4, h5', h6', h7⟩ := frzAll_sound (a := a) _ _ _ _ _ _ h hR0 hS0 hV
    have h5 : Grows A A' w := q5.trans h5' (Nat.le_refl _) h6'
    have h6 : ∀ (r : Nat), A[r]? = some none → A'[r]? = some none := fun r hr => h6' r (q6 r hr)
    unfold finV.finOn at h1
    split at h1
    case h_2 => simp at h1
    rename_i c1 c2
    obtain ⟨p1, p2, p3⟩ := pack_all h2 (Nat.le_trans hm h5.len) c1 c2
    injection h1 with h1
    injection h1 with e1 e2
    subst e1; subst e2
    exact ⟨_, _, hrun, p1, p2 (oneV_rel h4), (PG.of hm h5 h6).trans p3 (Nat.le_refl _)⟩

omit DW in
theorem scal_mem : ∀ {vs : List V}, scalL vs = true → ∀ (i : Nat) (c : V), vs[i]? = some c → scalV c = true
  | [], _, i, c, h => by simp at h
  | x :: vs, hs, 0, c, h => by
    simp only [scalL] at hs
    split at hs
    · rename_i hx; simp at h; subst h; exact hx
    · simp at hs
  | x :: vs, hs, i + 1, c, h => by
    simp only [scalL] at hs
    split at hs
    · exact scal_mem hs i c (by simpa using h)
    · simp at hs

theorem runF_sound {E : Env} {P : Program} (hE : EnvOK E P) : ∀ n, CallOK P (runF E n)
  | 0 => fun f args F v F1 h => by simp [runF] at h
  | n + 1 => fun f args F v F1 h => by
    simp only [runF] at h
    split at h
    · rename_i g hg
      exact ⟨(hE.ext f g hg).1, fun B w A vals hR hl hrel => (hE.ext f g hg).2 args F v F1 h B w A vals hR hl hrel⟩
    split at h
    · simp at h
    rename_i fu hfu
    split at h
    · simp at h
    rename_i c hbody
    obtain ⟨hf, hname, hdr⟩ := hE.fn f fu hfu
    have hB : drawsB E.scal E.pur c = true := by simp only [drawsF, hbody] at hdr; exact hdr
    refine ⟨⟨fu, hf, by simp [hbody], hname⟩, fun B w A vals hR hl hrel => ?_⟩
    have hlen : F.length ≤ A.length := by rw [hR.len]; exact Nat.le_refl _
    have hS : Slots w A (args ++ List.replicate (fu.ntmps - args.length) .dead) (vals ++ Array.replicate (fu.ntmps - vals.size) undef) := by
      refine ⟨by simp [hl], fun i x u h1 h2 => ?_⟩
      by_cases hi : i < args.length
      · rw [List.getElem?_append_left hi] at h1
        rw [Array.getElem?_append_left (by rw [← hl]; exact hi)] at h2
        exact hrel i x u h1 h2
      · rw [List.getElem?_append_right (by omega), List.getElem?_replicate] at h1
        split at h1
        · injection h1 with h1; subst h1; exact .dead _
        · simp at h1
    refine calls_of_wp hf hbody (wp_mono (exec_sound hE (runF_sound hE n) c hB _ F _ h A { tmps := vals ++ Array.replicate (fu.ntmps - vals.size) undef, defers := [] } w hlen hR hS rfl) ?_)
    rintro e a1 w1 ⟨ex, t1, F1', A1, g1, g2, g3, g4, g5, g6, g7⟩
    have done : finV E F.length f fu t1 F1' = some (v, F1) → a1.defers = [] ∧ ∃ u, (results fu a1.tmps).run P w1 = .ok u w1 ∧ CallPost B A w v F1 (.returned u) w1 := by
      intro hfin
      obtain ⟨u, A', k1, k2, k3, k4⟩ := fin_sound (P := P) hE g3 g4 g7.len hfin
      have hpg := g7.trans k4 g6.size
      refine ⟨g5, u, k1, u, A', rfl, k2, k3, g6, ⟨?_, fun r x hx => hpg.old r x (by rw [← hR.len]; exact (List.getElem?_eq_some_iff.mp hx).1) hx, hpg.own⟩, fun r hr => hpg.gone r (by rw [← hR.len]; exact (List.getElem?_eq_some_iff.mp hr).1) hr⟩
      rw [hR.len]; exact hpg.len
    cases ex with
    | normal =>
      cases e <;> try exact g2.elim
      exact done g1
    | exit i => simp at g1
    | ret =>
      cases e <;> try exact g2.elim
      exact done g1

/-! ### Rounds do not count -/
open Classical in
/-- What a function comes to, from some number of rounds on. -/
noncomputable def callL (E : Env) : Ca := fun f args F => if h : ∃ r, ∃ m, ∀ m', m ≤ m' → runF E m' f args F = some r then some h.choose else none

omit DW in
theorem callL_some {E : Env} {f : FuncId} {args : List V} {F : Fo} {r : V × Fo} (h : callL E f args F = some r) : ∃ m, ∀ m', m ≤ m' → runF E m' f args F = some r := by
  unfold callL at h
  split at h
  · rename_i hex
    injection h with h
    rw [← h]; exact hex.choose_spec
  · simp at h

omit DW in
theorem callL_of {E : Env} {f : FuncId} {args : List V} {F : Fo} {r : V × Fo} (h : ∃ m, ∀ m', m ≤ m' → runF E m' f args F = some r) : callL E f args F = some r := by
  unfold callL
  have hex : ∃ r, ∃ m, ∀ m', m ≤ m' → runF E m' f args F = some r := ⟨r, h⟩
  rw [dif_pos hex]
  obtain ⟨m, hm⟩ := h
  obtain ⟨m2, hm2⟩ := hex.choose_spec
  have h1 := hm (max m m2) (Nat.le_max_left _ _)
  have h2 := hm2 (max m m2) (Nat.le_max_right _ _)
  rw [h1] at h2
  exact h2.symm

end Go.Proofs.YtjnhclnnobejgaaE

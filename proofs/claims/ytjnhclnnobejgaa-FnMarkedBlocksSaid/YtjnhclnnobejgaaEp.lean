/- The engine, sixteenth part: the arguments of a statement, of whatever type, read as plain data; conditions: the type is made of whole numbers, bools, strings, slices and structs. -/
import Derived.Test.YtjnhclnnobejgaaEo
import Derived.ProofKit
import Derived.ChangeArms
import Derived.WideShapes
namespace Go.Proofs.YtjnhclnnobejgaaE
open Go.RowKit Go.WideShapes
set_option linter.unusedVariables false
set_option linter.unusedSimpArgs false
variable [DW : Drw]

omit DW in
theorem look_all {α : Type} {Q : Nat → α → Prop} : ∀ {l : List (Nat × α)}, (∀ p ∈ l, Q p.1 p.2) → ∀ t i, look l t = some i → Q t i
  | [], _, t, i, h => by simp [look] at h
  | (n, a) :: l, hl, t, i, h => by
    simp only [look] at h
    split at h
    · rename_i hb
      have : n = t := Nat.eq_of_beq_eq_true hb
      subst this
      injection h with h
      subst h
      exact hl (n, a) (by simp)
    · exact look_all (fun p hp => hl p (by simp [hp])) t i h
omit DW in
theorem info_of {P : Program} {t : TypeId} {z : Value} {s b : Nat} {d : TypeDesc} (hi : (P.info? t).map (fun i => (i.zero, i.size, i.bytes)) = some (some z, s, b)) (hu : P.underlying t = some d) :
    ∃ ti, P.info? t = some ti ∧ P.underlying t = some d ∧ ti.size = s ∧ ti.bytes = b ∧ ti.zero = some z := by
  cases h : P.info? t with
  | none => rw [h] at hi; simp at hi
  | some i =>
    rw [h] at hi
    simp only [Option.map_some, Option.some.injEq, Prod.mk.injEq] at hi
    exact ⟨i, rfl, hu, hi.2.1, hi.2.2, hi.1⟩

/-- The types of arguments. -/
inductive Ty where
  | int (k : IntKind)
  | bool
  | str
  | slice (e : Ty)
  | struct (fs : List Ty)

mutual
/-- Data of a type, cell by cell. -/
def OkD : Ty → List D → Prop
  | .int k, ds => ∃ n, ds = [.lit (.int k n)] ∧ (Lit.int k n).wf = true
  | .bool, ds => ∃ b, ds = [.lit (.bool b)]
  | .str, ds => ∃ s : ByteArray, ds = [.lit (.string s)] ∧ s.size ≤ maxLen
  | .slice e, ds => ∃ rows : List (List D), ds = [.arr rows] ∧ rows.length ≤ maxLen ∧ ∀ row ∈ rows, OkD e row
  | .struct fs, ds => OkS fs ds
def OkS : List Ty → List D → Prop
  | [], ds => ds = []
  | f :: fs, ds => ∃ a b, ds = a ++ b ∧ OkD f a ∧ OkS fs b
end

mutual
/-- A type of the program is this one. -/
def tyB (P : Program) : Ty → TypeId → Bool
  | .int k, t => (match P.underlying t with | some (.int k') => k' == k | _ => false) && P.cellsOf t == 1
  | .bool, t => (match P.underlying t with | some .bool => true | _ => false) && P.cellsOf t == 1
  | .str, t => (match P.underlying t with | some .string => true | _ => false) && P.cellsOf t == 1
  | .slice e, t => (match P.underlying t with | some (.slice u) => tyB P e u && decide (0 < P.cellsOf u) | _ => false) && P.cellsOf t == 1
  | .struct fs, t => match P.underlying t with | some (.struct gs) => tysB P fs gs.toList 0 (P.cellsOf t) | _ => false
def tysB (P : Program) : List Ty → List Field → Nat → Nat → Bool
  | [], [], o, n => o == n
  | f :: fs, g :: gs, o, n => g.offset == o && tyB P f g.type && tysB P fs gs (o + P.cellsOf g.type) n
  | _, _, _, _ => false
end

section
variable {H : Type} {enc : TypeId × Value → H} {P : Program} {w : World} {base : Nat} {spare : Nat → Bool} {held : Bool}

omit DW in
theorem cells_some {a : Addr} {n : Nat} {cs : List Value} (h : w.cells? base a n = some cs) : cs.length = n ∧ ∀ i, i < n → w.cell? (a.add i) = cs[i]? := by
  unfold World.cells? at h
  split at h
  · exact ⟨by simpa using mapM_some_length h, fun i hi => mapM_some_get h i i (by simp [hi])⟩
  · simp at h

omit DW in
theorem choose_list {α : Type} {p : Nat → α → Prop} : ∀ n, (∀ i, i < n → ∃ x, p i x) → ∃ l : List α, l.length = n ∧ ∀ (i : Nat) (x : α), l[i]? = some x → p i x
  | 0, _ => ⟨[], rfl, fun i x h => by simp at h⟩
  | n + 1, h => by
    obtain ⟨l, h1, h2⟩ := choose_list n (fun i hi => h i (by omega))
    obtain ⟨x, hx⟩ := h n (by omega)
    refine ⟨l ++ [x], by simp [h1], fun i y hy => ?_⟩
    by_cases hi : i < n
    · rw [List.getElem?_append_left (by omega)] at hy; exact h2 i y hy
    · rw [List.getElem?_append_right (by omega)] at hy
      have : i = n := by
        have := (List.getElem?_eq_some_iff.mp hy).1
        simp at this; omega
      subst this
      rw [h1] at hy
      simp at hy
      subst hy; exact hx

omit DW in
theorem beq_nat {a b : Nat} (h : (a == b) = true) : a = b := by simpa using h

omit DW in
mutual
theorem open_ty {S : Nat → Prop} (hS : ∀ b, S b) : ∀ (ty : Ty) (t : TypeId) (n : Nat) (cs : List Value) (x : DataW H × List MemPlace), tyB P ty t = true → DataW.trod enc P w base spare held n t cs = some x →
    ∃ ds, OkD ty ds ∧ RepL w S ds cs ∧ cs.length = P.cellsOf t
  | .int k, t, n, cs, x, ht, h => by
    rw [tyB, Bool.and_eq_true] at ht
    obtain ⟨h1, h2⟩ := ht
    split at h1
    · rename_i k' hu
      have : k' = k := by simpa using h1
      subst this
      obtain ⟨m, rfl, _, hw⟩ := DataW.trod_int hu h
      exact ⟨[.lit (.int k' m)], by rw [OkD]; exact ⟨m, rfl, hw⟩, ⟨rfl, fun i y v g1 g2 => by
        match i, g1, g2 with
        | 0, g1, g2 => simp at g1 g2; subst g1; subst g2; exact .lit _ rfl⟩, (beq_nat h2).symm⟩
    · simp at h1
  | .bool, t, n, cs, x, ht, h => by
    rw [tyB, Bool.and_eq_true] at ht
    obtain ⟨h1, h2⟩ := ht
    split at h1
    · rename_i hu
      obtain ⟨m, rfl, _⟩ := DataW.trod_bool hu h
      exact ⟨[.lit (.bool m)], by rw [OkD]; exact ⟨m, rfl⟩, ⟨rfl, fun i y v g1 g2 => by
        match i, g1, g2 with
        | 0, g1, g2 => simp at g1 g2; subst g1; subst g2; exact .lit _ rfl⟩, (beq_nat h2).symm⟩
    · simp at h1
  | .str, t, n, cs, x, ht, h => by
    rw [tyB, Bool.and_eq_true] at ht
    obtain ⟨h1, h2⟩ := ht
    split at h1
    · rename_i hu
      obtain ⟨m, rfl, _, hw⟩ := DataW.trod_string hu h
      exact ⟨[.lit (.string m)], by rw [OkD]; exact ⟨m, rfl, hw⟩, ⟨rfl, fun i y v g1 g2 => by
        match i, g1, g2 with
        | 0, g1, g2 => simp at g1 g2; subst g1; subst g2; exact .lit _ rfl⟩, (beq_nat h2).symm⟩
    · simp at h1
  | .slice e, t, n, cs, x, ht, h => by
    rw [tyB, Bool.and_eq_true] at ht
    obtain ⟨h1, h2⟩ := ht
    split at h1
    · rename_i u hu
      rw [Bool.and_eq_true] at h1
      obtain ⟨h1, h3⟩ := h1
      have h3 : 0 < P.cellsOf u := of_decide_eq_true h3
      have one : ∀ (v : Value) (d : D), Rep w S d v → RepL w S [d] [v] := fun v d hr => ⟨rfl, fun i y v' g1 g2 => by
        match i, g1, g2 with
        | 0, g1, g2 => simp at g1 g2; subst g1; subst g2; exact hr⟩
      rcases DataW.trod_slice hu h with ⟨rfl, _⟩ | ⟨a, len, cap, elems, rest, q, _, rfl, _, hb, hlc, hcm, hel, hget, _, _⟩
      · exact ⟨[.arr []], by rw [OkD]; exact ⟨[], rfl, by simp, fun row hr => by simp at hr⟩, one _ _ (.empty _ _ (fun _ => rfl)), (beq_nat h2).symm⟩
      · have each : ∀ i, i < len → ∃ row : List D, OkD e row ∧ ∃ ci : List Value, w.cells? base (a.add (i * P.cellsOf u)) (P.cellsOf u) = some ci ∧ RepL w S row ci ∧ ci.length = P.cellsOf u := by
          intro i hi
          have hg := hget i hi
          rw [List.getElem?_eq_getElem (by omega)] at hg
          obtain ⟨ci, hc1, hc2⟩ := Option.bind_eq_some_iff.mp hg
          obtain ⟨row, r1, r2, r3⟩ := open_ty hS e u q ci _ h1 hc2
          exact ⟨row, r1, ci, hc1, r2, r3⟩
        obtain ⟨rows, hrl, hrows⟩ := choose_list len each
        have hok : ∀ row ∈ rows, OkD e row := fun row hr => by
          obtain ⟨i, hi⟩ := List.mem_iff_getElem?.mp hr
          exact (hrows i row hi).1
        refine ⟨[.arr rows], by rw [OkD]; exact ⟨rows, rfl, by omega, hok⟩, one _ _ ?_, (beq_nat h2).symm⟩
        by_cases h0 : len = 0
        · have : rows = [] := List.eq_nil_of_length_eq_zero (by omega)
          subst this
          rw [h0]
          exact .empty _ _ (fun h => by simp at h)
        · have hlen : ∀ row ∈ rows, row.length = P.cellsOf u := fun row hr => by
            obtain ⟨i, hi⟩ := List.mem_iff_getElem?.mp hr
            obtain ⟨_, ci, _, g2, g3⟩ := hrows i row hi
            rw [g2.1, g3]
          obtain ⟨b, o, spot⟩ := a
          have cellAt : ∀ i l, i < len → l < P.cellsOf u → ∃ v, w.cell? ((⟨b, o, spot⟩ : Addr).add (i * P.cellsOf u + l)) = some v ∧ ∀ row, rows[i]? = some row → ∀ d, row[l]? = some d → Rep w S d v := by
            intro i l hi hl
            have hrw : rows[i]? = some rows[i] := by simp [hrl, hi]
            obtain ⟨_, ci, g1, g2, g3⟩ := hrows i _ hrw
            obtain ⟨k1, k2⟩ := cells_some g1
            have := k2 l hl
            have hadd : ((⟨b, o, spot⟩ : Addr).add (i * P.cellsOf u)).add l = (⟨b, o, spot⟩ : Addr).add (i * P.cellsOf u + l) := by
              unfold Addr.add
              by_cases hz : i * P.cellsOf u = 0
              · simp [hz]
              · by_cases hz2 : l = 0
                · simp [hz, hz2]
                · simp [hz, hz2]; omega
            rw [hadd] at this
            refine ⟨ci[l]'(by omega), by rw [this]; simp [k1, hl], fun row hr d hd => ?_⟩
            rw [hrw] at hr
            injection hr with hr
            subst hr
            exact g2.2 l d _ hd (by simp [k1, hl])
          have hspot : spot = none := by
            obtain ⟨v, hv, _⟩ := cellAt 0 0 (by omega) h3
            simp only [Nat.zero_mul, Nat.add_zero] at hv
            have : (⟨b, o, spot⟩ : Addr).add 0 = ⟨b, o, spot⟩ := by unfold Addr.add; simp
            rw [this] at hv
            cases spot with
            | none => rfl
            | some s =>
              unfold World.cell? at hv
              split at hv <;> simp at hv
          subst hspot
          rw [← hrl]
          refine .arr rows b o (P.cellsOf u) cap (fun i => (w.cell? ⟨b, o + i, none⟩).getD undef) (hS b) h3 hlen (by omega) (by omega) (fun i hi => ?_) (fun i d hd => ?_)
          · obtain ⟨v, hv, _⟩ := cellAt (i / P.cellsOf u) (i % P.cellsOf u) (by rw [Nat.div_lt_iff_lt_mul h3]; rw [hrl] at hi; exact hi) (Nat.mod_lt _ h3)
            have e : i / P.cellsOf u * P.cellsOf u + i % P.cellsOf u = i := by rw [Nat.mul_comm]; exact Nat.div_add_mod i _
            rw [e, add_at] at hv
            rw [hv]; rfl
          · have hi : i < rows.length * P.cellsOf u := by rw [← flat_len rows hlen]; exact (List.getElem?_eq_some_iff.mp hd).1
            have hq : i / P.cellsOf u < rows.length := by rw [Nat.div_lt_iff_lt_mul h3]; exact hi
            have e : i / P.cellsOf u * P.cellsOf u + i % P.cellsOf u = i := by rw [Nat.mul_comm]; exact Nat.div_add_mod i _
            obtain ⟨v, hv, hrep⟩ := cellAt (i / P.cellsOf u) (i % P.cellsOf u) (by omega) (Nat.mod_lt _ h3)
            rw [e, add_at] at hv
            rw [hv]
            have hrw : rows[i / P.cellsOf u]? = some rows[i / P.cellsOf u] := by simp [hq]
            refine hrep _ hrw d ?_
            rw [← flat_get rows hlen _ _ _ hrw (Nat.mod_lt _ h3), e]; exact hd
    · simp at h1
  | .struct fs, t, n, cs, x, ht, h => by
    rw [tyB] at ht
    split at ht
    · rename_i gs hu
      obtain ⟨xs, q, _, _, hl, hxl, hg⟩ := DataW.trod_struct hu h
      obtain ⟨ds, g1, g2⟩ := open_tys hS fs gs.toList 0 cs q xs 0 (P.cellsOf t) ht (by omega) (fun i f hf => by
        have := hg i f (by simpa using hf)
        simpa using this) hl (fun i f hf => by have := (List.getElem?_eq_some_iff.mp hf).1; simp at this; omega)
      exact ⟨ds, by rw [OkD]; exact g1, by simpa using g2, hl⟩
    · simp at ht
theorem open_tys {S : Nat → Prop} (hS : ∀ b, S b) : ∀ (fs : List Ty) (gs : List Field) (o : Nat) (cs : List Value) (n : Nat) (xs : List (DataW H × List MemPlace)) (j N : Nat), tysB P fs gs o N = true → o ≤ N →
    (∀ (i : Nat) (f : Field), gs[i]? = some f → DataW.trod enc P w base spare held n f.type ((cs.drop f.offset).take (P.cellsOf f.type)) = xs[j + i]?) → cs.length = N → (∀ (i : Nat) (f : Field), gs[i]? = some f → j + i < xs.length) →
    ∃ ds, OkS fs ds ∧ RepL w S ds (cs.drop o)
  | [], [], o, cs, n, xs, j, N, ht, ho, h, hl, hx => by
    rw [tysB] at ht
    have : o = N := beq_nat ht
    exact ⟨[], by rw [OkS], by rw [List.drop_of_length_le (by omega)]; exact RepL.nil w S⟩
  | f :: fs, [], o, cs, n, xs, j, N, ht, ho, h, hl, hx => by simp [tysB] at ht
  | [], g :: gs, o, cs, n, xs, j, N, ht, ho, h, hl, hx => by simp [tysB] at ht
  | f :: fs, g :: gs, o, cs, n, xs, j, N, ht, ho, h, hl, hx => by
    rw [tysB, Bool.and_eq_true, Bool.and_eq_true] at ht
    obtain ⟨⟨t1, t2⟩, t3⟩ := ht
    have hgo : g.offset = o := beq_nat t1
    have h0 := h 0 g rfl
    have hlt := hx 0 g rfl
    rw [List.getElem?_eq_getElem hlt, hgo] at h0
    obtain ⟨a, a1, a2, a3⟩ := open_ty hS f g.type n _ _ t2 h0
    have hle : o + P.cellsOf g.type ≤ N := by
      simp only [List.length_take, List.length_drop] at a3; omega
    obtain ⟨b, b1, b2⟩ := open_tys hS fs gs (o + P.cellsOf g.type) cs n xs (j + 1) N t3 hle (fun i f' hf => by
      have := h (i + 1) f' (by simpa using hf)
      rw [this]; congr 1; omega) hl (fun i f' hf => by have := hx (i + 1) f' (by simpa using hf); omega)
    refine ⟨a ++ b, by rw [OkS]; exact ⟨a, b, rfl, a1, b1⟩, ?_⟩
    have hs : cs.drop o = (cs.drop o).take (P.cellsOf g.type) ++ cs.drop (o + P.cellsOf g.type) := by
      rw [← List.drop_drop, List.take_append_drop]
    rw [hs]
    exact a2.append b2
end

/-- Nobody waits. -/
@[reducible] def noBad : Bad := ⟨fun _ => False⟩

/-- An argument as a slot's value. -/
def argV : Ty → List D → V
  | .struct _, ds => .agg (mapO V.d ds)
  | _, [d] => .d d
  | _, _ => .dead

omit DW in
theorem open_arg {r : Reach} {b0 : Nat} {ty : Ty} {t : TypeId} {v : Value} {d : DataW H} {p : List MemPlace} (ht : tyB P ty t = true) (hv : Value.okWide P w r b0 t v) (h : DataW.Trod enc P w base spare held t v d p) :
    ∃ ds, OkD ty ds ∧ @RelV noBad w [] (argV ty ds) v := by
  obtain ⟨n, hf⟩ := h
  have hS : ∀ b, @Free noBad [] b := fun b => ⟨fun ⟨r, x, h, _⟩ => by simp at h, fun h => h⟩
  obtain ⟨ds, h1, h2, _⟩ := open_ty (S := @Free noBad []) hS ty t n _ _ ht hf
  refine ⟨ds, h1, ?_⟩
  have one : ∀ (x : D), ds = [x] → v.cells = #[v] → @RelV noBad w [] (.d x) v := by
    intro x hx hc
    subst hx
    rw [hc] at h2
    exact @RelV.d noBad _ _ _ _ (h2.2 0 x v rfl rfl)
  cases ty with
  | int k =>
    rw [OkD] at h1
    obtain ⟨m, rfl, _⟩ := h1
    rw [tyB, Bool.and_eq_true] at ht
    have ht1 := ht.1
    split at ht1
    · rename_i k' hu
      obtain ⟨n, rfl, _⟩ := okWide_int hu hv
      exact one _ rfl rfl
    · simp at ht1
  | bool =>
    rw [OkD] at h1
    obtain ⟨m, rfl⟩ := h1
    rw [tyB, Bool.and_eq_true] at ht
    have ht1 := ht.1
    split at ht1
    · rename_i hu
      obtain ⟨n, rfl⟩ := okWide_bool hu hv
      exact one _ rfl rfl
    · simp at ht1
  | str =>
    rw [OkD] at h1
    obtain ⟨m, rfl, _⟩ := h1
    rw [tyB, Bool.and_eq_true] at ht
    have ht1 := ht.1
    split at ht1
    · rename_i hu
      obtain ⟨n, rfl, _⟩ := okWide_string hu hv
      exact one _ rfl rfl
    · simp at ht1
  | slice e =>
    rw [OkD] at h1
    obtain ⟨m, rfl, _⟩ := h1
    rw [tyB, Bool.and_eq_true] at ht
    have ht1 := ht.1
    split at ht1
    · rename_i u hu
      obtain ⟨a, l, c, rfl⟩ := okWide_slice hu hv
      exact one _ rfl rfl
    · simp at ht1
  | struct fs =>
    rw [tyB] at ht
    split at ht
    · rename_i gs hu
      obtain ⟨cs, rfl, _⟩ := okWide_struct hu hv
      have hr := @relL_row noBad w [] _ _ h2
      exact @RelV.agg noBad _ _ _ cs (by have h3 : (mapO V.d ds).length = cs.toList.length := hr.1; simpa using h3) (fun i c u g1 g2 => hr.2 i c u g1 (by
        have : cs.toList[i]? = some u := by simpa using g2
        exact this))
    · simp at ht

/-- A statement's function: it answers true, and nothing that was there has turned. -/
theorem law_calls {E : Env} (hE : EnvOK E P) {f : FuncId} {args : List V} (h : callL E f args [] = some (.d (.lit (.bool true)), [])) {vals : Array Value} (hl : args.length = vals.size)
    (hrel : ∀ (i : Nat) (c : V) (u : Value), args[i]? = some c → vals[i]? = some u → @RelV noBad w [] c u) :
    Calls P f vals w fun e w' => e = .returned (.bool true) ∧ Go.RowKit.Below w.heap.size w w' := by
  obtain ⟨m, hm⟩ := callL_some h
  have hR : @Roots noBad w [] [] := @Roots.mk noBad _ _ _ rfl (fun _ _ _ _ _ h => by simp at h) (fun _ _ h => by simp at h) (fun _ h => by simp at h) (fun b ⟨r, x, h, _⟩ => by simp at h) (fun b ⟨r, x, h, _⟩ => by simp at h) (fun b h => h.elim)
  refine ((runF_sound hE m f args [] _ _ (hm m (Nat.le_refl _))).2 noBad w [] vals hR hl hrel).mono ?_
  rintro e w' ⟨u, A', he, h1, h2, h3, _, _⟩
  have := @RelV.lit_inv noBad _ _ _ _ h2
  subst this
  exact ⟨he, ⟨h3.os, h3.tape, h3.output, h3.size, fun b hb => h3.block b hb (fun ⟨r, x, h, _⟩ => by simp at h)⟩⟩

end
end Go.Proofs.YtjnhclnnobejgaaE

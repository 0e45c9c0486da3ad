/- The engine, a known contract: strings.Repeat answers a text; conditions: none. -/
import Derived.Test.YtdcgngeepbbikaaEq
import Derived.Shelf.Strings.Repeat
namespace Go.Proofs.YtdcgngeepbbikaaE
open Go.Proofs Go.Shelf Go.RowKit
set_option linter.unusedVariables false
set_option linter.unusedSimpArgs false

/-- What strings.Repeat answers. -/
noncomputable def repB (s : ByteArray) (c : Int) : ByteArray := ⟨(Lib.repeatL s.data.toList c.toNat).toArray⟩
noncomputable def extRepeat : List V → Fo → Option (V × Fo) := fun args F => match args with
  | [.d (.lit (.string s)), .d (.lit (.int .i64 c))] => match decide (0 ≤ c), decide (c ≤ 140737488355328), decide (s.size * c.toNat ≤ 140737488355328) with
    | true, true, true => some (.d (.lit (.string (repB s c))), F)
    | _, _, _ => none
  | _ => none

/-- strings.Repeat's contract in the engine's form. -/
theorem ext_repeat {P : Program} {ρ : Ren} {f : FuncId} (hf : ρ.f 105 = f) (L : Lays.n105 P ρ) (X : Builder.Extra P ρ) (hfu : ∃ fu, P.funcs[f]? = some fu ∧ fu.body.isNone = false ∧ (fu.name == "runtime.NumGoroutine") = false) : ExtOK P f extRepeat := by
  subst hf
  refine ⟨hfu, fun args F v F1 hg B w A vals hR hl hrel => ?_⟩
  unfold extRepeat at hg
  split at hg
  case h_2 => simp at hg
  rename_i s c
  split at hg
  case h_2 => simp at hg
  rename_i c1 c2 c3
  simp only [Option.some.injEq, Prod.mk.injEq] at hg
  obtain ⟨rfl, rfl⟩ := hg
  have h0 : 0 ≤ c := of_decide_eq_true c1
  have h1 : c ≤ 140737488355328 := of_decide_eq_true c2
  have h2 : s.size * c.toNat ≤ 140737488355328 := of_decide_eq_true c3
  obtain ⟨u, v, rfl⟩ : ∃ u v, vals = #[u, v] := by
    match vals, hl with
    | ⟨[u, v]⟩, _ => exact ⟨u, v, rfl⟩
  have e1 : u = .string s := scal_val (hrel 0 _ u rfl rfl) rfl
  have e2 : v = .int .i64 c := scal_val (hrel 1 _ v rfl rfl) rfl
  subst e1 e2
  rw [show (.int .i64 c : Value) = .int .i64 (c.toNat : Int) by rw [Int.toNat_of_nonneg h0]]
  refine (Any.strings_Repeat L X s c.toNat w (by omega) h2).mono ?_
  rintro e w' ⟨rfl, hb⟩
  exact ⟨_, A, rfl, @Roots.below B _ _ _ _ hR hb, .d _ _ (.lit _ rfl), .of_below hb, .refl _ _, fun _ h => h⟩
end Go.Proofs.YtdcgngeepbbikaaE

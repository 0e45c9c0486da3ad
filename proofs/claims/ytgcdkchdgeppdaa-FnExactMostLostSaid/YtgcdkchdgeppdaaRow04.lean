/- FnExactMostLost: what its functions come to, and the row; conditions: none. -/
import Derived.Test.YtgcdkchdgeppdaaT04
import Derived.Test.YtgcdkchdgeppdaaEr
import Derived.Test.YtgcdkchdgeppdaaRows
import Derived.WalkKit
import Derived.ProofKit
import Derived.OpenShut
import Derived.ShutString
import Derived.ChangeOld
import Derived.Below
import Derived.SizedLaws
namespace Go.Proofs.Ytgcdkchdgeppdaa.T04
open Go.Proofs.YtgcdkchdgeppdaaE
set_option maxRecDepth 100000
set_option linter.unusedVariables false
set_option linter.unusedSimpArgs false

theorem f_szVerdictS (l : List Verdict) (hk : okL okVerdict l) (left : Int) (h0 : 0 ≤ left) (h1 : left ≤ 1048576) : callL E 24 [.d (.arr (l.map rVerdict)), IN left] [] = some (IN (szr (List.length l) left), []) := by
  have hl := hk.1
  refine callW (fu := Try.f24) rfl rfl (l.length + 1) ?_
  intro lp cl hlp hcl
  generalize hN : l.length + 1 = N
  conv => lhs; whnf
  have hw : IntKind.i64.wrap (left - ((l.map rVerdict).length : Int)) = left - (l.length : Int) := by rw [IntKind.wrap_i64, List.length_map]; omega
  rw [hw]
  by_cases q : (l.length : Int) ≤ left
  rotate_left
  · rw [decide_eq_true (show left - (l.length : Int) < 0 by omega), szr_neg q]
    show _ = _
    kernel_rfl
  rw [decide_eq_false (show ¬ (left - (l.length : Int) < 0) by omega), szr_pos q]
  show _ = _
  kernel_rfl

theorem f_toVerdict (x : Verdict) : callL E 87 [vVerdict x] [] = some (vVerdict x, []) := by
  refine callW (fu := Try.f87) rfl rfl 1 ?_
  intro lp cl hlp hcl
  show _ = _
  kernel_rfl

def h_toVerdictS (l : List Verdict) (n : Int) : List V := ([.d (.arr (l.map rVerdict)), .dead, .dead, .sl 0, IN n] ++ List.replicate 18 .dead : List V)
def z_toVerdictS : List D := [.lit (.int .i64 0), .lit (.int .i64 0), .lit (.bool false), .lit (.int .i64 0), .lit (.int .i64 0), .lit (.int .i64 0), .lit (.bool false)]
theorem f_toVerdictS (l : List Verdict) (ht : List.length l ≤ 1048576) : callL E 26 [.d (.arr (l.map rVerdict))] [] = some (.d (.arr (l.map rVerdict)), []) := by
  have hl : l.length ≤ 1048576 := ht
  refine callW (fu := Try.f26) rfl rfl (l.length + 1) ?_
  intro lp cl hlp hcl
  generalize hN : l.length + 1 = N
  conv => lhs; whnf
  rw [mkOk_nat (l.map rVerdict).length 56 7 (by simp; omega) rfl rfl]
  conv => lhs; whnf
  rw [hlp]
  refine loop_rule (fun d t F => ∃ i : Nat, t = h_toVerdictS l i ∧ F = [some (.arr 118 7 ((l.take i).map rVerdict ++ List.replicate (l.length - i) z_toVerdictS))] ∧ d = l.length - i ∧ i ≤ l.length) ?_ N l.length _ _ (by omega) ⟨h_toVerdictS l 0, [some (.arr 118 7 (List.replicate (l.map rVerdict).length z_toVerdictS))], fun k => by kernel_rfl, 0, rfl, by simp, by omega, by omega⟩
  rintro d t F ⟨i, rfl, rfl, rfl, hi⟩ next hnext
  conv => lhs; whnf
  split
  · rename_i h
    have hlt : i < l.length := by have := of_decide_eq_true h; simp at this; omega
    have hg := get_map rVerdict l i hlt
    conv => lhs; whnf
    repeat (rw [hg]; conv => lhs; whnf)
    rw [cl_eq hcl (f_toVerdict l[i])]
    rotate_left
    · show _ = _
      kernel_rfl
    · show _ = _
      kernel_rfl
    conv => lhs; whnf
    have hq := get_row rVerdict l z_toVerdictS i hlt
    repeat (rw [hq]; conv => lhs; whnf)
    refine hnext (l.length - (i + 1)) _ _ (h_toVerdictS l (IntKind.i64.wrap ((i : Int) + 1))) [some (.arr 118 7 (((l.take i).map rVerdict ++ List.replicate (l.length - i) z_toVerdictS).set ((i : Nat) : Int).toNat (rVerdict l[i])))] (by omega) (fun k => by kernel_rfl) ⟨i + 1, by rw [wrap_nat i (by omega)], by rw [take_row rVerdict l z_toVerdictS i hlt], rfl, by omega⟩
  · rename_i h
    have hlt : i = l.length := by have := of_decide_eq_false h; simp at this; omega
    conv => lhs; whnf
    subst hlt
    rw [List.take_length, Nat.sub_self, List.replicate_zero, List.append_nil]
    show _ = _
    kernel_rfl

theorem f_eqVerdict (x : Verdict) : callL E 90 [vVerdict x, vVerdict x] [] = some (BO true, []) := by
  refine callW (fu := Try.f90) rfl rfl 1 ?_
  intro lp cl hlp hcl
  conv => lhs; whnf
  first | rw [bne_self_eq_false] | rw [not_beq_self] | rw [beq_self_eq_true]
  conv => lhs; whnf
  first | rw [bne_self_eq_false] | rw [not_beq_self] | rw [beq_self_eq_true]
  conv => lhs; whnf
  first | rw [bne_self_eq_false] | rw [not_beq_self] | rw [beq_self_eq_true]
  conv => lhs; whnf
  first | rw [bne_self_eq_false] | rw [not_beq_self] | rw [beq_self_eq_true]
  conv => lhs; whnf
  first | rw [bne_self_eq_false] | rw [not_beq_self] | rw [beq_self_eq_true]
  conv => lhs; whnf
  first | rw [bne_self_eq_false] | rw [not_beq_self] | rw [beq_self_eq_true]
  conv => lhs; whnf
  first | rw [bne_self_eq_false] | rw [not_beq_self] | rw [beq_self_eq_true]
  show _ = _
  kernel_rfl

def h_eqVerdictS (l : List Verdict) (n : Int) : List V := ([.d (.arr (l.map rVerdict)), .d (.arr (l.map rVerdict)), .dead, .dead, .dead, IN n] ++ List.replicate 21 .dead : List V)
theorem f_eqVerdictS (l : List Verdict) (ht : List.length l ≤ 1048576) : callL E 28 [.d (.arr (l.map rVerdict)), .d (.arr (l.map rVerdict))] [] = some (BO true, []) := by
  have hl : l.length ≤ 1048576 := ht
  refine callW (fu := Try.f28) rfl rfl (l.length + 1) ?_
  intro lp cl hlp hcl
  generalize hN : l.length + 1 = N
  conv => lhs; whnf
  first | rw [bne_self_eq_false] | rw [not_beq_self] | rw [beq_self_eq_true]
  conv => lhs; whnf
  rw [hlp]
  refine loop_rule (fun d t F => ∃ i : Nat, t = h_eqVerdictS l i ∧ F = [] ∧ d = l.length - i ∧ i ≤ l.length) ?_ N l.length _ _ (by omega) ⟨h_eqVerdictS l 0, [], fun k => by kernel_rfl, 0, rfl, rfl, by omega, by omega⟩
  rintro d t F ⟨i, rfl, rfl, rfl, hi⟩ next hnext
  conv => lhs; whnf
  split
  · rename_i h
    have hlt : i < l.length := by have := of_decide_eq_true h; simp at this; omega
    have hg := get_map rVerdict l i hlt
    conv => lhs; whnf
    repeat (rw [hg]; conv => lhs; whnf)
    rw [cl_eq hcl (f_eqVerdict l[i])]
    rotate_left
    · show _ = _
      kernel_rfl
    · show _ = _
      kernel_rfl
    conv => lhs; whnf
    refine hnext (l.length - (i + 1)) _ _ (h_eqVerdictS l (IntKind.i64.wrap ((i : Int) + 1))) [] (by omega) (fun k => by kernel_rfl) ⟨i + 1, by rw [wrap_nat i (by omega)], rfl, rfl, by omega⟩
  · rename_i h
    show _ = _
    kernel_rfl

theorem fin_b {b c : Bool} {o : Option (V × Fo)} (h : o = some (BO b, [])) (e : b = c) : o = some (BO c, []) := by subst e; exact h

theorem f_within (n lo hi : Int) : callL E 80 [IN n, IN lo, IN hi] [] = some (BO (inR n lo hi), []) := by
  refine callW (fu := Try.f80) rfl rfl (1) ?_
  intro lp cl hlp hcl
  conv => lhs; whnf
  unfold inR
  cases h : decide (n ≥ lo)
  all_goals kernel_rfl

theorem f_l00In (n lo hi : Int) : callL E 79 [IN n, IN lo, IN hi] [] = some (BO (inR n lo hi), []) := by
  refine callW (fu := Try.f79) rfl rfl (1) ?_
  intro lp cl hlp hcl
  conv => lhs; whnf
  unfold inR
  cases h : decide (n ≥ lo)
  all_goals kernel_rfl


theorem f_l00Max (a b : Int) : callL E 91 [IN a, IN b] [] = some (IN (if b > a then b else a), []) := by
  refine callW (fu := Try.f91) rfl rfl (1) ?_
  intro lp cl hlp hcl
  conv => lhs; whnf
  cases h : decide (a > b)
  · have h1 := of_decide_eq_false h
    by_cases h2 : b > a
    · rw [if_pos h2]
      show _ = _
      kernel_rfl
    · rw [if_neg h2, show a = b by omega]
      show _ = _
      kernel_rfl
  · have h1 := of_decide_eq_true h
    rw [if_neg (by omega)]
    show _ = _
    kernel_rfl

def mlStep (m : Int) (v : Verdict) : Int := match inR v.Started 0 12 && inR v.Prefix 0 12 with
  | true => if IntKind.i64.wrap (v.Started - v.Prefix) > m then IntKind.i64.wrap (v.Started - v.Prefix) else m
  | false => m

def h1 (l : List Verdict) (m n : Int) : List V := ([.d (.arr (l.map rVerdict)), .dead, .dead, IN m, IN n] ++ List.replicate 34 .dead : List V)
theorem f_sMostLost (l : List Verdict) (ht : l.length ≤ 1048576) : callL E 29 [.d (.arr (l.map rVerdict))] [] = some (IN (l.foldl mlStep 0), []) := by
  refine callW (fu := Try.f29) rfl rfl (l.length + 1) ?_
  intro lp cl hlp hcl
  generalize hN : l.length + 1 = N
  conv => lhs; whnf
  rw [hlp]
  refine loop_rule (fun d t F => ∃ i : Nat, t = h1 l ((l.take i).foldl mlStep 0) i ∧ F = [] ∧ d = l.length - i ∧ i ≤ l.length) ?_ N l.length _ _ (by omega) ⟨h1 l 0 0, [], fun k => by kernel_rfl, 0, rfl, rfl, by omega, by omega⟩
  rintro d t F ⟨i, rfl, rfl, rfl, hi⟩ next hnext
  generalize hm : (l.take i).foldl mlStep 0 = m
  conv => lhs; whnf
  split
  · rename_i h
    have hlt : i < l.length := by have := of_decide_eq_true h; simp at this; omega
    have hg := get_map rVerdict l i hlt
    have hst : (l.take (i + 1)).foldl mlStep 0 = mlStep m l[i] := by rw [List.take_succ_eq_append_getElem hlt, List.foldl_append, hm]; rfl
    conv => lhs; whnf
    repeat' (first
      | (rw [hg]; conv => lhs; whnf)
      | (rw [cl_eq hcl (f_l00In _ _ _)]; rotate_left; exact rfl; exact rfl; conv => lhs; whnf)
      | (rw [cl_eq hcl (f_l00Max _ _)]; rotate_left; exact rfl; exact rfl; conv => lhs; whnf)
      | (split <;> rename_i hh <;> (try rw [hh]) <;> conv => lhs; whnf))
    · rename_i a _ b
      refine hnext (l.length - (i + 1)) _ _ (h1 l (IntKind.i64.wrap (l[i].Started - l[i].Prefix)) (IntKind.i64.wrap ((i : Int) + 1))) [] (by omega) (fun k => by kernel_rfl) ⟨i + 1, by rw [wrap_nat i (by omega), hst, mlStep, a, b]; exact congrArg (fun x => h1 l x _) (if_pos hh).symm, rfl, rfl, by omega⟩
    · rename_i a _ b
      refine hnext (l.length - (i + 1)) _ _ (h1 l m (IntKind.i64.wrap ((i : Int) + 1))) [] (by omega) (fun k => by kernel_rfl) ⟨i + 1, by rw [wrap_nat i (by omega), hst, mlStep, a, b]; exact congrArg (fun x => h1 l x _) (if_neg hh).symm, rfl, rfl, by omega⟩
    · rename_i a _
      have b := hh
      refine hnext (l.length - (i + 1)) _ _ (h1 l m (IntKind.i64.wrap ((i : Int) + 1))) [] (by omega) (fun k => by kernel_rfl) ⟨i + 1, by rw [wrap_nat i (by omega), hst, mlStep, a, b]; rfl, rfl, rfl, by omega⟩
    · have a := hh
      refine hnext (l.length - (i + 1)) _ _ (h1 l m (IntKind.i64.wrap ((i : Int) + 1))) [] (by omega) (fun k => by kernel_rfl) ⟨i + 1, by rw [wrap_nat i (by omega), hst, mlStep, a]; rfl, rfl, rfl, by omega⟩
  · rename_i h
    have hlt : ¬ i < l.length := by have := of_decide_eq_false h; simp at this; omega
    rw [List.take_of_length_le (by omega)] at hm
    rw [hm]
    show _ = _
    kernel_rfl

def h2 (l : List Verdict) (m n : Int) : List V := ([.dead, .dead, .dead, IN m, .dead, .dead, .d (.arr (l.map rVerdict)), IN (l.map rVerdict).length, IN n] ++ List.replicate 20 .dead : List V)
theorem f_iMostLost (l : List Verdict) (ht : l.length ≤ 1048576) : callL E 30 [.d (.arr (l.map rVerdict))] [] = some (IN (l.foldl mlStep 0), []) := by
  refine callW (fu := Try.f30) rfl rfl (l.length + 1) ?_
  intro lp cl hlp hcl
  generalize hN : l.length + 1 = N
  conv => lhs; whnf
  rw [hlp]
  refine loop_rule (fun d t F => ∃ i : Nat, t = h2 l ((l.take i).foldl mlStep 0) i ∧ F = [] ∧ d = l.length - i ∧ i ≤ l.length) ?_ N l.length _ _ (by omega) ⟨h2 l 0 0, [], fun k => by kernel_rfl, 0, rfl, rfl, by omega, by omega⟩
  rintro d t F ⟨i, rfl, rfl, rfl, hi⟩ next hnext
  generalize hm : (l.take i).foldl mlStep 0 = m
  conv => lhs; whnf
  split
  · rename_i h
    have hlt : i < l.length := by have := of_decide_eq_true h; simp at this; omega
    have hg := get_map rVerdict l i hlt
    have hst : (l.take (i + 1)).foldl mlStep 0 = mlStep m l[i] := by rw [List.take_succ_eq_append_getElem hlt, List.foldl_append, hm]; rfl
    conv => lhs; whnf
    repeat' (first
      | (rw [hg]; conv => lhs; whnf)
      | (rw [cl_eq hcl (f_within _ _ _)]; rotate_left; exact rfl; exact rfl; conv => lhs; whnf)
      | (split <;> rename_i hh <;> (try rw [hh]) <;> conv => lhs; whnf))
    · rename_i a _ b
      refine hnext (l.length - (i + 1)) _ _ (h2 l (IntKind.i64.wrap (l[i].Started - l[i].Prefix)) (IntKind.i64.wrap ((i : Int) + 1))) [] (by omega) (fun k => by kernel_rfl) ⟨i + 1, by rw [wrap_nat i (by omega), hst, mlStep, a, b]; exact congrArg (fun x => h2 l x _) (if_pos hh).symm, rfl, rfl, by omega⟩
    · rename_i a _ b
      refine hnext (l.length - (i + 1)) _ _ (h2 l m (IntKind.i64.wrap ((i : Int) + 1))) [] (by omega) (fun k => by kernel_rfl) ⟨i + 1, by rw [wrap_nat i (by omega), hst, mlStep, a, b]; exact congrArg (fun x => h2 l x _) (if_neg hh).symm, rfl, rfl, by omega⟩
    · rename_i a _
      have b := hh
      refine hnext (l.length - (i + 1)) _ _ (h2 l m (IntKind.i64.wrap ((i : Int) + 1))) [] (by omega) (fun k => by kernel_rfl) ⟨i + 1, by rw [wrap_nat i (by omega), hst, mlStep, a, b]; rfl, rfl, rfl, by omega⟩
    · have a := hh
      refine hnext (l.length - (i + 1)) _ _ (h2 l m (IntKind.i64.wrap ((i : Int) + 1))) [] (by omega) (fun k => by kernel_rfl) ⟨i + 1, by rw [wrap_nat i (by omega), hst, mlStep, a]; rfl, rfl, rfl, by omega⟩
  · rename_i h
    have hlt : ¬ i < l.length := by have := of_decide_eq_false h; simp at this; omega
    rw [List.take_of_length_le (by omega)] at hm
    rw [hm]
    show _ = _
    kernel_rfl

theorem f_law (l : List Verdict) (hk : okL okVerdict l) : callL E 6 [.d (.arr (l.map rVerdict))] [] = some (BO true, []) := by
  refine callW (fu := Try.f6) rfl rfl (1) ?_
  intro lp cl hlp hcl
  conv => lhs; whnf
  rw [cl_eq hcl (f_szVerdictS l hk 1048576 (by omega) (by omega))]
  rotate_left
  · show _ = _
    kernel_rfl
  · show _ = _
    kernel_rfl
  conv => lhs; whnf
  by_cases q : (l.length : Int) ≤ 1048576
  rotate_left
  · rw [szr_neg q]
    show _ = _
    kernel_rfl
  rw [szr_pos q]
  conv => lhs; whnf
  rw [decide_eq_false (show ¬ (1048576 - (l.length : Int) < 0) by omega)]
  conv => lhs; whnf
  repeat' (first
    | (rw [cl_eq hcl (f_toVerdictS l (by omega))]; rotate_left; exact rfl; exact rfl; conv => lhs; whnf)
    | (rw [cl_eq hcl (f_sMostLost l (by omega))]; rotate_left; exact rfl; exact rfl; conv => lhs; whnf)
    | (rw [cl_eq hcl (f_iMostLost l (by omega))]; rotate_left; exact rfl; exact rfl; conv => lhs; whnf)
    | (rw [cl_eq hcl (f_eqVerdictS l (by omega))]; rotate_left; exact rfl; exact rfl; conv => lhs; whnf)
    | (rw [bne_self_eq_false]; conv => lhs; whnf)
    | (rw [not_beq_self]; conv => lhs; whnf)
    | (rw [beq_self_eq_true]; conv => lhs; whnf))
  show _ = _
  kernel_rfl

open Go.ChangeShapes Go.WideShapes Go.ChangeAt Go.RowKit
theorem own : ownKnob Try.prog.godebug = none := by kernel_rfl
theorem laidOut : laidOutB Try.prog = true := by kernel_rfl
theorem lifted (os : Os) (started : os.Started) (H : Type) (enc : TypeId × Value → H) :
    ReturnsInHanded {} Try.checked os 6 .any (Rows.fnExactMostLostSpec.pre6 enc Try.prog Try.f6 Rows.fnExactMostLostRow.domain false) (Rows.fnExactMostLostSpec.post enc Try.prog Try.f6 false true false false) := by
  refine returnsInHanded_of_change_sized (C := Try.checked) own started (by kernel_rfl) Try.func6
    (ChangeSpec.witness6 (enc := enc) (C := Try.checked) false ⟨#[], #[.slice none 0 0], []⟩ 8 (by kernel_rfl) (by kernel_rfl) (by kernel_rfl) (by kernel_rfl)) ?_
  intro W base args ds gs before hval0 hW hcnd hsz0 _
  have hval : ∀ (j : Nat) t v, Try.f6.params[j]? = some t → args[j]? = some v → Value.okWide Try.prog W .any base t v := hval0
  have hW' := hW
  obtain ⟨p, q, hA0, hV, rfl, hfz, hnd⟩ := hW
  have hA : DataW.TrodAll enc Try.prog W 0 (fun _ => true) true Try.f6.params.toList args.toList ds p := hA0
  rw [Try.params6] at hA hval
  obtain ⟨v0, vs0, d0, ds0, p0, q0, hargs0, rfl, rfl, h0, r0⟩ := trodAll_cons hA
  obtain ⟨rfl, rfl, rfl⟩ := trodAll_nil r0
  obtain rfl : args = #[v0] := by cases args; simp_all
  obtain ⟨rfl, rfl⟩ := trodVars_none hV
  have k0 := h0
  have lt0 : ∀ x ∈ p0, x.block < W.heap.size := by obtain ⟨m, hm⟩ := k0; exact DataW.trod_lt m _ _ _ hm
  obtain ⟨dd0, o0, e0⟩ := open_arg (ty := (.slice tyVerdict)) (by kernel_rfl) (hval 0 30 v0 rfl rfl) h0
  obtain ⟨x0, rfl, ok0⟩ := (of_L (f := rVerdict) (ok := okVerdict) (fun _ h => of_Verdict h)) o0
  refine (law_calls ok (f_law x0 ok0) (vals := #[v0]) rfl (fun i c u g1 g2 => ?_)).mono fun e W' ⟨he, bel⟩ => ?_
  · match i, g1, g2 with
    | 0, g1, g2 => simp at g1 g2; subst g1; subst g2; exact e0
  subst he
  exact ⟨_, rfl, _, _, _, [], _, [], hW', trodAll_mk1 (shut_bool Try.underlying4 _), (trodAll_cons_mk (Below.trod laidOut (by kernel_rfl) (of_decide_eq_true (by kernel_rfl)) k0 bel lt0) trodAll_mk0), rfl, bel.frame _, fun h => by cases h⟩
theorem over : Rows.fnExactMostLostRow.holds Try.pinned (OpenSpec.ofChange Rows.fnExactMostLostSpec) :=
  OpenClaim.holds_of_wide 6 Try.f6 rfl rfl rfl rfl rfl rfl rfl ⟨rfl, rfl, rfl, rfl, rfl⟩ rfl rfl rfl rfl rfl (by kernel_rfl) Try.func6 (by kernel_rfl)
    (of_decide_eq_true (by kernel_rfl)) (by unfold Func.isWrapper; first | (rw [if_pos (by decide +kernel)]; kernel_rfl) | (rw [if_neg (by decide +kernel)]; exact ⟨rfl, rfl⟩))
    (fun os started H enc _ => lifted os started H enc)
theorem proved : Rows.FnExactMostLostSaid := over

end Go.Proofs.Ytgcdkchdgeppdaa.T04
namespace Go.Proofs.Ytgcdkchdgeppdaa
theorem fnExactMostLost_holds : Rows.FnExactMostLostSaid := T04.proved
end Go.Proofs.Ytgcdkchdgeppdaa

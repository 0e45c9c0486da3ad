/- FnExactLogicalAt: what its functions come to, and the row; conditions: none. -/
import Derived.Test.YtgcdkchdgeppdaaT12
import Derived.Test.YtgcdkchdgeppdaaEr
import Derived.Test.YtgcdkchdgeppdaaRows
import Derived.WalkKit
import Derived.ProofKit
import Derived.OpenShut
import Derived.ShutString
import Derived.ChangeOld
import Derived.Below
import Derived.SizedLaws
namespace Go.Proofs.Ytgcdkchdgeppdaa.T12
open Go.Proofs.YtgcdkchdgeppdaaE
set_option maxRecDepth 100000
set_option linter.unusedVariables false
set_option linter.unusedSimpArgs false

theorem f_szInt64S (l : List Int) (hk : okL i64r l) (left : Int) (h0 : 0 ≤ left) (h1 : left ≤ 1048576) : callL E 134 [.d (.arr (l.map rI)), IN left] [] = some (IN (szr (List.length l) left), []) := by
  have hl := hk.1
  refine callW (fu := Try.f134) rfl rfl (l.length + 1) ?_
  intro lp cl hlp hcl
  generalize hN : l.length + 1 = N
  conv => lhs; whnf
  have hw : IntKind.i64.wrap (left - ((l.map rI).length : Int)) = left - (l.length : Int) := by rw [IntKind.wrap_i64, List.length_map]; omega
  rw [hw]
  by_cases q : (l.length : Int) ≤ left
  rotate_left
  · rw [decide_eq_true (show left - (l.length : Int) < 0 by omega), szr_neg q]
    show _ = _
    kernel_rfl
  rw [decide_eq_false (show ¬ (left - (l.length : Int) < 0) by omega), szr_pos q]
  show _ = _
  kernel_rfl

theorem f_szBoolS (l : List Bool) (hk : okL okB l) (left : Int) (h0 : 0 ≤ left) (h1 : left ≤ 1048576) : callL E 135 [.d (.arr (l.map rB)), IN left] [] = some (IN (szr (List.length l) left), []) := by
  have hl := hk.1
  refine callW (fu := Try.f135) rfl rfl (l.length + 1) ?_
  intro lp cl hlp hcl
  generalize hN : l.length + 1 = N
  conv => lhs; whnf
  have hw : IntKind.i64.wrap (left - ((l.map rB).length : Int)) = left - (l.length : Int) := by rw [IntKind.wrap_i64, List.length_map]; omega
  rw [hw]
  by_cases q : (l.length : Int) ≤ left
  rotate_left
  · rw [decide_eq_true (show left - (l.length : Int) < 0 by omega), szr_neg q]
    show _ = _
    kernel_rfl
  rw [decide_eq_false (show ¬ (left - (l.length : Int) < 0) by omega), szr_pos q]
  show _ = _
  kernel_rfl

theorem f_szPageMap (x : PageMap) (hk : okPageMap x) (left : Int) (h0 : 0 ≤ left) (h1 : left ≤ 1048576) : callL E 74 [vPageMap x, IN left] [] = some (IN (szr (totPageMap x) left), []) := by
  have hT : totPageMap x = List.length x.Map + List.length x.Trimmed := rfl
  have ⟨kBlocks, kPages, kMap, kTrimmed⟩ := hk
  refine callW (fu := Try.f74) rfl rfl 1 ?_
  intro lp cl hlp hcl
  conv => lhs; whnf
  rw [cl_eq hcl (f_szInt64S x.Map kMap (left) (by omega) (by omega))]
  rotate_left
  · show _ = _
    kernel_rfl
  · show _ = _
    kernel_rfl
  by_cases q0 : ((List.length x.Map : Nat) : Int) ≤ left
  rotate_left
  · rw [szr_neg q0, szr_neg (by omega)]
    show _ = _
    kernel_rfl
  rw [szr_pos q0]
  conv => lhs; whnf
  rw [decide_eq_false (show ¬ (left - ((List.length x.Map : Nat) : Int) < 0) by omega)]
  conv => lhs; whnf
  rw [cl_eq hcl (f_szBoolS x.Trimmed kTrimmed ((left - ((List.length x.Map : Nat) : Int))) (by omega) (by omega))]
  rotate_left
  · show _ = _
    kernel_rfl
  · show _ = _
    kernel_rfl
  by_cases q1 : ((List.length x.Trimmed : Nat) : Int) ≤ (left - ((List.length x.Map : Nat) : Int))
  rotate_left
  · rw [szr_neg q1, szr_neg (by omega)]
    show _ = _
    kernel_rfl
  rw [szr_pos q1]
  conv => lhs; whnf
  rw [decide_eq_false (show ¬ ((left - ((List.length x.Map : Nat) : Int)) - ((List.length x.Trimmed : Nat) : Int) < 0) by omega)]
  conv => lhs; whnf
  rw [szr_pos (show ((totPageMap x : Nat) : Int) ≤ left by omega), show left - ((totPageMap x : Nat) : Int) = ((left - ((List.length x.Map : Nat) : Int)) - ((List.length x.Trimmed : Nat) : Int)) by omega]
  show _ = _
  kernel_rfl

def h_toInt64S (l : List Int) (n : Int) : List V := ([.d (.arr (l.map rI)), .dead, .dead, .sl 0, IN n] ++ List.replicate 17 .dead : List V)
def z_toInt64S : List D := [.lit (.int .i64 0)]
theorem f_toInt64S (l : List Int) (ht : List.length l ≤ 1048576) : callL E 138 [.d (.arr (l.map rI))] [] = some (.d (.arr (l.map rI)), []) := by
  have hl : l.length ≤ 1048576 := ht
  refine callW (fu := Try.f138) rfl rfl (l.length + 1) ?_
  intro lp cl hlp hcl
  generalize hN : l.length + 1 = N
  conv => lhs; whnf
  rw [mkOk_nat (l.map rI).length 8 1 (by simp; omega) rfl rfl]
  conv => lhs; whnf
  rw [hlp]
  refine loop_rule (fun d t F => ∃ i : Nat, t = h_toInt64S l i ∧ F = [some (.arr 2 1 ((l.take i).map rI ++ List.replicate (l.length - i) z_toInt64S))] ∧ d = l.length - i ∧ i ≤ l.length) ?_ N l.length _ _ (by omega) ⟨h_toInt64S l 0, [some (.arr 2 1 (List.replicate (l.map rI).length z_toInt64S))], fun k => by kernel_rfl, 0, rfl, by simp, by omega, by omega⟩
  rintro d t F ⟨i, rfl, rfl, rfl, hi⟩ next hnext
  conv => lhs; whnf
  split
  · rename_i h
    have hlt : i < l.length := by have := of_decide_eq_true h; simp at this; omega
    have hg := get_map rI l i hlt
    conv => lhs; whnf
    repeat (rw [hg]; conv => lhs; whnf)
    have hq := get_row rI l z_toInt64S i hlt
    repeat (rw [hq]; conv => lhs; whnf)
    refine hnext (l.length - (i + 1)) _ _ (h_toInt64S l (IntKind.i64.wrap ((i : Int) + 1))) [some (.arr 2 1 (((l.take i).map rI ++ List.replicate (l.length - i) z_toInt64S).set ((i : Nat) : Int).toNat (rI l[i])))] (by omega) (fun k => by kernel_rfl) ⟨i + 1, by rw [wrap_nat i (by omega)], by rw [take_row rI l z_toInt64S i hlt], rfl, by omega⟩
  · rename_i h
    have hlt : i = l.length := by have := of_decide_eq_false h; simp at this; omega
    conv => lhs; whnf
    subst hlt
    rw [List.take_length, Nat.sub_self, List.replicate_zero, List.append_nil]
    show _ = _
    kernel_rfl

def h_toBoolS (l : List Bool) (n : Int) : List V := ([.d (.arr (l.map rB)), .dead, .dead, .sl 0, IN n] ++ List.replicate 17 .dead : List V)
def z_toBoolS : List D := [.lit (.bool false)]
theorem f_toBoolS (l : List Bool) (ht : List.length l ≤ 1048576) : callL E 139 [.d (.arr (l.map rB))] [] = some (.d (.arr (l.map rB)), []) := by
  have hl : l.length ≤ 1048576 := ht
  refine callW (fu := Try.f139) rfl rfl (l.length + 1) ?_
  intro lp cl hlp hcl
  generalize hN : l.length + 1 = N
  conv => lhs; whnf
  rw [mkOk_nat (l.map rB).length 1 1 (by simp; omega) rfl rfl]
  conv => lhs; whnf
  rw [hlp]
  refine loop_rule (fun d t F => ∃ i : Nat, t = h_toBoolS l i ∧ F = [some (.arr 4 1 ((l.take i).map rB ++ List.replicate (l.length - i) z_toBoolS))] ∧ d = l.length - i ∧ i ≤ l.length) ?_ N l.length _ _ (by omega) ⟨h_toBoolS l 0, [some (.arr 4 1 (List.replicate (l.map rB).length z_toBoolS))], fun k => by kernel_rfl, 0, rfl, by simp, by omega, by omega⟩
  rintro d t F ⟨i, rfl, rfl, rfl, hi⟩ next hnext
  conv => lhs; whnf
  split
  · rename_i h
    have hlt : i < l.length := by have := of_decide_eq_true h; simp at this; omega
    have hg := get_map rB l i hlt
    conv => lhs; whnf
    repeat (rw [hg]; conv => lhs; whnf)
    have hq := get_row rB l z_toBoolS i hlt
    repeat (rw [hq]; conv => lhs; whnf)
    refine hnext (l.length - (i + 1)) _ _ (h_toBoolS l (IntKind.i64.wrap ((i : Int) + 1))) [some (.arr 4 1 (((l.take i).map rB ++ List.replicate (l.length - i) z_toBoolS).set ((i : Nat) : Int).toNat (rB l[i])))] (by omega) (fun k => by kernel_rfl) ⟨i + 1, by rw [wrap_nat i (by omega)], by rw [take_row rB l z_toBoolS i hlt], rfl, by omega⟩
  · rename_i h
    have hlt : i = l.length := by have := of_decide_eq_false h; simp at this; omega
    conv => lhs; whnf
    subst hlt
    rw [List.take_length, Nat.sub_self, List.replicate_zero, List.append_nil]
    show _ = _
    kernel_rfl

theorem f_toPageMap (x : PageMap) (ht : totPageMap x ≤ 1048576) : callL E 76 [vPageMap x] [] = some (vPageMap x, []) := by
  have hT : totPageMap x = List.length x.Map + List.length x.Trimmed := rfl
  refine callW (fu := Try.f76) rfl rfl 1 ?_
  intro lp cl hlp hcl
  conv => lhs; whnf
  rw [cl_eq hcl (f_toInt64S x.Map (by omega))]
  rotate_left
  · show _ = _
    kernel_rfl
  · show _ = _
    kernel_rfl
  conv => lhs; whnf
  rw [cl_eq hcl (f_toBoolS x.Trimmed (by omega))]
  rotate_left
  · show _ = _
    kernel_rfl
  · show _ = _
    kernel_rfl
  show _ = _
  kernel_rfl

def h_eqInt64S (l : List Int) (n : Int) : List V := ([.d (.arr (l.map rI)), .d (.arr (l.map rI)), .dead, .dead, .dead, IN n] ++ List.replicate 20 .dead : List V)
theorem f_eqInt64S (l : List Int) (ht : List.length l ≤ 1048576) : callL E 142 [.d (.arr (l.map rI)), .d (.arr (l.map rI))] [] = some (BO true, []) := by
  have hl : l.length ≤ 1048576 := ht
  refine callW (fu := Try.f142) rfl rfl (l.length + 1) ?_
  intro lp cl hlp hcl
  generalize hN : l.length + 1 = N
  conv => lhs; whnf
  first | rw [bne_self_eq_false] | rw [not_beq_self] | rw [beq_self_eq_true]
  conv => lhs; whnf
  rw [hlp]
  refine loop_rule (fun d t F => ∃ i : Nat, t = h_eqInt64S l i ∧ F = [] ∧ d = l.length - i ∧ i ≤ l.length) ?_ N l.length _ _ (by omega) ⟨h_eqInt64S l 0, [], fun k => by kernel_rfl, 0, rfl, rfl, by omega, by omega⟩
  rintro d t F ⟨i, rfl, rfl, rfl, hi⟩ next hnext
  conv => lhs; whnf
  split
  · rename_i h
    have hlt : i < l.length := by have := of_decide_eq_true h; simp at this; omega
    have hg := get_map rI l i hlt
    conv => lhs; whnf
    repeat (rw [hg]; conv => lhs; whnf)
    first | rw [bne_self_eq_false] | rw [not_beq_self] | rw [beq_self_eq_true]
    conv => lhs; whnf
    refine hnext (l.length - (i + 1)) _ _ (h_eqInt64S l (IntKind.i64.wrap ((i : Int) + 1))) [] (by omega) (fun k => by kernel_rfl) ⟨i + 1, by rw [wrap_nat i (by omega)], rfl, rfl, by omega⟩
  · rename_i h
    show _ = _
    kernel_rfl

def h_eqBoolS (l : List Bool) (n : Int) : List V := ([.d (.arr (l.map rB)), .d (.arr (l.map rB)), .dead, .dead, .dead, IN n] ++ List.replicate 20 .dead : List V)
theorem f_eqBoolS (l : List Bool) (ht : List.length l ≤ 1048576) : callL E 143 [.d (.arr (l.map rB)), .d (.arr (l.map rB))] [] = some (BO true, []) := by
  have hl : l.length ≤ 1048576 := ht
  refine callW (fu := Try.f143) rfl rfl (l.length + 1) ?_
  intro lp cl hlp hcl
  generalize hN : l.length + 1 = N
  conv => lhs; whnf
  first | rw [bne_self_eq_false] | rw [not_beq_self] | rw [beq_self_eq_true]
  conv => lhs; whnf
  rw [hlp]
  refine loop_rule (fun d t F => ∃ i : Nat, t = h_eqBoolS l i ∧ F = [] ∧ d = l.length - i ∧ i ≤ l.length) ?_ N l.length _ _ (by omega) ⟨h_eqBoolS l 0, [], fun k => by kernel_rfl, 0, rfl, rfl, by omega, by omega⟩
  rintro d t F ⟨i, rfl, rfl, rfl, hi⟩ next hnext
  conv => lhs; whnf
  split
  · rename_i h
    have hlt : i < l.length := by have := of_decide_eq_true h; simp at this; omega
    have hg := get_map rB l i hlt
    conv => lhs; whnf
    repeat (rw [hg]; conv => lhs; whnf)
    first | rw [bne_self_eq_false] | rw [not_beq_self] | rw [beq_self_eq_true]
    conv => lhs; whnf
    refine hnext (l.length - (i + 1)) _ _ (h_eqBoolS l (IntKind.i64.wrap ((i : Int) + 1))) [] (by omega) (fun k => by kernel_rfl) ⟨i + 1, by rw [wrap_nat i (by omega)], rfl, rfl, by omega⟩
  · rename_i h
    show _ = _
    kernel_rfl

theorem f_eqPageMap (x : PageMap) (ht : totPageMap x ≤ 1048576) : callL E 78 [vPageMap x, vPageMap x] [] = some (BO true, []) := by
  have hT : totPageMap x = List.length x.Map + List.length x.Trimmed := rfl
  refine callW (fu := Try.f78) rfl rfl 1 ?_
  intro lp cl hlp hcl
  conv => lhs; whnf
  first | rw [bne_self_eq_false] | rw [not_beq_self] | rw [beq_self_eq_true]
  conv => lhs; whnf
  first | rw [bne_self_eq_false] | rw [not_beq_self] | rw [beq_self_eq_true]
  conv => lhs; whnf
  rw [cl_eq hcl (f_eqInt64S x.Map (by omega))]
  rotate_left
  · show _ = _
    kernel_rfl
  · show _ = _
    kernel_rfl
  conv => lhs; whnf
  rw [cl_eq hcl (f_eqBoolS x.Trimmed (by omega))]
  rotate_left
  · show _ = _
    kernel_rfl
  · show _ = _
    kernel_rfl
  show _ = _
  kernel_rfl

theorem f_within (n lo hi : Int) : callL E 80 [IN n, IN lo, IN hi] [] = some (BO (inR n lo hi), []) := by
  refine callW (fu := Try.f80) rfl rfl (1) ?_
  intro lp cl hlp hcl
  conv => lhs; whnf
  unfold inR
  cases h : decide (n ≥ lo)
  all_goals kernel_rfl

theorem f_l00In (n lo hi : Int) : callL E 79 [IN n, IN lo, IN hi] [] = some (BO (inR n lo hi), []) := by
  refine callW (fu := Try.f79) rfl rfl (1) ?_
  intro lp cl hlp hcl
  conv => lhs; whnf
  unfold inR
  cases h : decide (n ≥ lo)
  all_goals kernel_rfl


abbrev mp (x : PageMap) (i : Nat) : Int := x.Map.getD i 0
abbrev tr (x : PageMap) (i : Nat) : Bool := x.Trimmed.getD i false
/-- An entry may stand so. -/
def MapAt (x : PageMap) (i : Nat) : Prop := (-1 ≤ mp x i ∧ mp x i ≤ x.Blocks * x.Pages - 1 ∧ (mp x i < 0 → tr x i = false)) ∧ (0 ≤ mp x i → ∀ k, k < i → mp x k ≠ mp x i)
def Base (x : PageMap) : Prop := (1 ≤ x.Map.length ∧ x.Map.length ≤ 48) ∧ (1 ≤ x.Blocks ∧ x.Blocks ≤ 640 ∧ 1 ≤ x.Pages ∧ x.Pages ≤ 640 ∧ x.Blocks * x.Pages ≤ 640) ∧ x.Trimmed.length = x.Map.length
noncomputable def okMap (x : PageMap) : Bool := pB (Base x ∧ ∀ i, i < x.Map.length → MapAt x i)

theorem mul_in {b p : Int} (h1 : 1 ≤ b) (h2 : b ≤ 640) (h3 : 1 ≤ p) (h4 : p ≤ 640) : 1 ≤ b * p ∧ b * p ≤ 409600 := by
  constructor
  · have := Int.mul_le_mul h1 h3 (by omega) (by omega)
    simpa using this
  · have := Int.mul_le_mul h2 h4 (by omega) (by omega)
    simpa using this

theorem f_size (l b p : Int) : callL E 175 [IN l, IN b, IN p] [] = some (BO (decide ((1 ≤ l ∧ l ≤ 48) ∧ 1 ≤ b ∧ b ≤ 640 ∧ 1 ≤ p ∧ p ≤ 640 ∧ b * p ≤ 640)), []) := by
  refine callW (fu := Try.f175) rfl rfl (1) ?_
  intro lp cl hlp hcl
  conv => lhs; whnf
  repeat' (first
    | (rw [cl_eq hcl (f_l00In _ _ _)]; rotate_left; exact rfl; exact rfl; conv => lhs; whnf)
    | (split <;> rename_i hh <;> (try rw [hh]) <;> conv => lhs; whnf))
  · rename_i _ g1 _ g2 _
    refine fin_b rfl ?_
    have h1 := inR_iff.mp g1
    have h2 := inR_iff.mp g2
    have h3 := inR_iff.mp hh
    have h4 := mul_in h2.1 h2.2 h3.1 h3.2
    rw [Bool.eq_iff_iff]
    simp only [decide_eq_true_eq, wrap_sm (b * p) (by omega) (by omega)]
    omega
  all_goals refine fin_b rfl ?_
  all_goals (clear hlp hcl; rw [Bool.eq_iff_iff]; simp [inR] at *; try omega)

theorem f_sizeOk (b p : Int) : callL E 176 [IN b, IN p] [] = some (BO (decide (1 ≤ b ∧ b ≤ 640 ∧ 1 ≤ p ∧ p ≤ 640 ∧ b * p ≤ 640)), []) := by
  refine callW (fu := Try.f176) rfl rfl (1) ?_
  intro lp cl hlp hcl
  conv => lhs; whnf
  rw [cl_eq hcl (f_within b 1 640)]
  rotate_left
  · show _ = _
    kernel_rfl
  · show _ = _
    kernel_rfl
  conv => lhs; whnf
  cases g : inR b 1 640
  · rw [decide_eq_false (show ¬ _ from fun hc => by simp [inR] at g; omega)]
    show _ = _
    kernel_rfl
  · conv => lhs; whnf
    have hb := inR_iff.mp g
    rw [quo_of (show b ≠ 0 by omega)]
    conv => lhs; whnf
    repeat' (first
      | (rw [cl_eq hcl (f_within _ _ _)]; rotate_left; exact rfl; exact rfl; conv => lhs; whnf))
    refine fin_b rfl ?_
    have h1 : Int.tdiv 640 b = 640 / b := Int.tdiv_eq_ediv_of_nonneg (by omega)
    have h2 : 0 ≤ 640 / b := Int.ediv_nonneg (by omega) (by omega)
    have h3 : 640 / b ≤ 640 := Int.ediv_le_self _ (by omega)
    have h4 : p ≤ 640 / b ↔ p * b ≤ 640 := Int.le_ediv_iff_mul_le (by omega)
    have h5 : p * b = b * p := Int.mul_comm p b
    rw [Bool.eq_iff_iff, h1, wrap_sm (640 / b) (by omega) (by omega), inR_iff, decide_eq_true_eq, h4, h5]
    constructor
    · intro h
      have : b * p ≥ 1 * p := Int.mul_le_mul_of_nonneg_right hb.1 (by omega)
      omega
    · omega

/-- Where a page lies. -/
def atP (l : List Int) (p : Int) : Int := idxP (fun v => decide (p = v)) l
def h_Index (l : List Int) (p i : Int) : List V := ([.d (.arr (l.map rI)), IN p, .dead, .dead, .dead, .dead, .dead, IN (l.map rI).length, IN i] ++ List.replicate 10 .dead : List V)
theorem f_Index (l : List Int) (p : Int) (hl : l.length ≤ 1048576) : callL E 179 [.d (.arr (l.map rI)), IN p] [] = some (IN (atP l p), []) := by
  refine callW (fu := Try.f179) rfl rfl (l.length + 1) ?_
  intro lp cl hlp hcl
  generalize hN : l.length + 1 = N
  conv => lhs; whnf
  try rw [hlp]
  refine loop_rule (fun d t F => ∃ i : Nat, t = h_Index l p i ∧ F = [] ∧ d = l.length - i ∧ i ≤ l.length ∧ ∀ j (hj : j < i) (h2 : j < l.length), decide (p = l[j]) = false) ?_ N (l.length) _ _ (by omega) ⟨h_Index l p 0, ([]), fun k => by kernel_rfl, 0, rfl, rfl, by omega, by omega, fun j hj => by omega⟩
  rintro d t F ⟨i, rfl, rfl, rfl, hi, hinv⟩ next hnext
  conv => lhs; whnf
  split
  · rename_i h
    have hlt : i < l.length := by have := of_decide_eq_true h; simp at this; omega
    have hg := get_map rI l i hlt
    conv => lhs; whnf
    repeat' (first
      | (rw [hg]; conv => lhs; whnf)
      | (split <;> rename_i hh <;> (try rw [hh]) <;> conv => lhs; whnf))
    · have hh' : decide (p = l[i]) = true := by simpa using hh
      rw [show atP l p = i from idxP_some hlt hh' (fun j hj => hinv j hj (by omega))]
      show _ = _
      kernel_rfl
    · have hh' : decide (p = l[i]) = false := by simpa using hh
      refine hnext (l.length - (i + 1)) _ _ (h_Index l p (IntKind.i64.wrap ((i : Int) + 1))) ([]) (by omega) (fun k => by kernel_rfl) ⟨i + 1, by rw [wrap_nat i (by omega)], rfl, rfl, by omega, fun j hj h3 => if e : j = i then by subst e; exact hh' else hinv j (by omega) h3⟩
  · rename_i h
    have hlt : i = l.length := by have := of_decide_eq_false h; simp at this; omega
    subst hlt
    rw [show atP l p = -1 from idxP_none (fun j hj => hinv j hj hj)]
    show _ = _
    kernel_rfl
theorem f_Contains (l : List Int) (p : Int) (hl : l.length ≤ 1048576) : callL E 178 [.d (.arr (l.map rI)), IN p] [] = some (BO (l.any fun v => decide (p = v)), []) := by
  refine callW (fu := Try.f178) rfl rfl (1) ?_
  intro lp cl hlp hcl
  conv => lhs; whnf
  rw [cl_eq hcl (f_Index l p hl)]
  rotate_left
  · show _ = _
    kernel_rfl
  · show _ = _
    kernel_rfl
  conv => lhs; whnf
  rw [← idxP_any]
  show _ = _
  kernel_rfl
theorem f_phys (x : PageMap) : callL E 177 [vPageMap x] [] = some (IN (IntKind.i64.wrap (x.Blocks * x.Pages)), []) := by
  refine callW (fu := Try.f177) rfl rfl (1) ?_
  intro lp cl hlp hcl
  conv => lhs; whnf
  show _ = _
  kernel_rfl
def atM (x : PageMap) (p : Int) : Int := if p < 0 then -1 else atP x.Map p
theorem f_iAt (x : PageMap) (p : Int) (hl : x.Map.length ≤ 1048576) : callL E 141 [vPageMap x, IN p] [] = some (IN (atM x p), []) := by
  unfold atM
  refine callW (fu := Try.f141) rfl rfl (1) ?_
  intro lp cl hlp hcl
  conv => lhs; whnf
  cases g : decide (p < 0)
  · rw [if_neg (of_decide_eq_false g)]
    conv => lhs; whnf
    rw [cl_eq hcl (f_Index x.Map p hl)]
    rotate_left
    · show _ = _
      kernel_rfl
    · show _ = _
      kernel_rfl
    show _ = _
    kernel_rfl
  · rw [if_pos (of_decide_eq_true g)]
    show _ = _
    kernel_rfl

def h_iMap (x : PageMap) (i : Int) : List V := ([.dead, .bp 0 0, .dead, .dead, .dead, .dead, .dead, .dead, .dead, .dead, .dead, .dead, .dead, .dead, .dead, .dead, .dead, .dead, .dead, .dead, .dead, .dead, .dead, .dead, .dead, .dead, .dead, .dead, .d (.arr (x.Map.map rI)), IN (x.Map.map rI).length, IN i] ++ List.replicate 34 .dead : List V)
theorem f_iMap (x : PageMap) : callL E 140 [vPageMap x] [] = some (BO (okMap x), []) := by
  refine callW (fu := Try.f140) rfl rfl (x.Map.length + 1) ?_
  intro lp cl hlp hcl
  generalize hN : x.Map.length + 1 = N
  conv => lhs; whnf
  repeat' (first
    | (rw [cl_eq hcl (f_sizeOk _ _)]; rotate_left; exact rfl; exact rfl; conv => lhs; whnf)
    | (rw [cl_eq hcl (f_within _ _ _)]; rotate_left; exact rfl; exact rfl; conv => lhs; whnf)
    | (split <;> rename_i hh <;> (try rw [hh]) <;> conv => lhs; whnf))
  rotate_right
  · rename_i _ g1 _ g2 _
    have hB : Base x := by
      unfold Base
      simp [inR] at g1 g2 hh
      omega
    try rw [hlp]
    refine loop_rule (fun d t F => ∃ i : Nat, t = h_iMap x i ∧ F = [some (.box (mapO .d (rPageMap x)))] ∧ d = x.Map.length - i ∧ i ≤ x.Map.length ∧ ∀ j, j < i → MapAt x j) ?_ N (x.Map.length) _ _ (by omega) ⟨h_iMap x 0, ([some (.box (mapO .d (rPageMap x)))]), fun k => by kernel_rfl, 0, rfl, rfl, by omega, by omega, fun j hj => by omega⟩
    rintro d t F ⟨i, rfl, rfl, rfl, hi, hinv⟩ next hnext
    conv => lhs; whnf
    split
    · rename_i h
      have hlt : i < x.Map.length := by have := of_decide_eq_true h; simp at this; omega
      have hg := get_map rI x.Map i hlt
      have hg2 := get_map rB x.Trimmed i (by rw [hB.2.2]; exact hlt)
      have hal := allLen_map rI 1 rI_len x.Map
      have hB1 : x.Map.length ≤ 48 := hB.1.2
      have hlt2 : i < x.Trimmed.length := by rw [hB.2.2]; exact hlt
      have hle : (x.Map.take i).length ≤ 1048576 := by have := hB.1.2; simp; omega
      have hd1 : decide ((0 : Int) ≤ (i : Int)) = true := decide_eq_true (by omega)
      have hd2 : decide ((i : Int) ≤ ((x.Map.map rI).length : Int)) = true := decide_eq_true (by simp; omega)
      have hsl : List.take ((i : Int).toNat - (0 : Int).toNat) (List.drop (0 : Int).toNat (x.Map.map rI)) = (x.Map.take i).map rI := by simp
      have hM : mp x i = x.Map[i] := by simp [mp, hlt]
      have hT : tr x i = x.Trimmed[i] := by simp [tr, hB.2.2, hlt]
      have hbp := mul_in hB.2.1.1 hB.2.1.2.1 hB.2.1.2.2.1 hB.2.1.2.2.2.1
      have hw : IntKind.i64.wrap (IntKind.i64.wrap (x.Blocks * x.Pages) - 1) = x.Blocks * x.Pages - 1 := by
        rw [wrap_sm (x.Blocks * x.Pages) (by omega) (by omega), wrap_sm _ (by omega) (by omega)]
      have fin : (!inR x.Map[i] (-1) (IntKind.i64.wrap (IntKind.i64.wrap (x.Blocks * x.Pages) - 1))) = false → -1 ≤ x.Map[i] ∧ x.Map[i] ≤ x.Blocks * x.Pages - 1 := by
        intro hf; rw [hw] at hf; simp [inR] at hf; exact hf
      have any1 : ((x.Map.take i).any fun v => decide (x.Map[i] = v)) = true → ∃ k, k < i ∧ mp x k = mp x i := by
        intro ha
        obtain ⟨v, hv, he⟩ := List.any_eq_true.mp ha
        obtain ⟨k, hk, rfl⟩ := List.mem_iff_getElem.mp hv
        have hk2 : k < i := by simp at hk; omega
        have hk3 : k < x.Map.length := by omega
        refine ⟨k, hk2, ?_⟩
        rw [hM, of_decide_eq_true he]
        simp [mp, hk3]
      have any2 : ((x.Map.take i).any fun v => decide (x.Map[i] = v)) = false → ∀ k, k < i → mp x k ≠ mp x i := by
        intro ha k hk he
        have hk3 : k < x.Map.length := by omega
        have := List.any_eq_false.mp ha (x.Map[k]) (by rw [List.mem_iff_getElem]; exact ⟨k, by simp; omega, by simp⟩)
        rw [hM] at he
        simp [mp, hk3] at he
        simp [he] at this
      have good : (-1 ≤ x.Map[i] ∧ x.Map[i] ≤ x.Blocks * x.Pages - 1) → (x.Map[i] < 0 → x.Trimmed[i] = false) → (0 ≤ x.Map[i] → ∀ k, k < i → mp x k ≠ mp x i) → ∀ j, j < i + 1 → MapAt x j := by
        intro q1 q2 q3 j hj
        by_cases he : j = i
        · subst he
          unfold MapAt
          rw [hM, hT]
          exact ⟨⟨q1.1, q1.2, q2⟩, by rw [← hM]; rw [← hM] at q3; exact q3⟩
        · exact hinv j (by omega)
      have bad : ¬ MapAt x i → okMap x = false := fun hc => pB_false fun h => hc (h.2 i hlt)
      conv => lhs; whnf
      repeat' (first
        | (rw [hg]; conv => lhs; whnf)
        | (rw [hg2]; conv => lhs; whnf)
        | (rw [hal]; conv => lhs; whnf)
        | (rw [hd1]; conv => lhs; whnf)
        | (rw [hd2]; conv => lhs; whnf)
        | (rw [hsl]; conv => lhs; whnf)
        | (rw [cl_eq hcl (f_phys x)]; rotate_left; exact rfl; exact rfl; conv => lhs; whnf)
        | (rw [cl_eq hcl (f_within _ _ _)]; rotate_left; exact rfl; exact rfl; conv => lhs; whnf)
        | (rw [cl_eq hcl (f_Contains (x.Map.take i) _ hle)]; rotate_left; exact rfl; exact rfl; conv => lhs; whnf)
        | (split <;> rename_i hh <;> (try rw [hh]) <;> conv => lhs; whnf))
      · refine Eq.trans (b := some (BO false, [])) (by kernel_rfl) (congrArg (fun b => some (BO b, ([] : Fo))) (bad ?_).symm)
        rintro ⟨⟨c1, c2, c3⟩, c4⟩
        rw [hM] at c1 c2
        rw [hw] at hh
        simp [inR] at hh
        omega
      · rename_i b _
        refine Eq.trans (b := some (BO false, [])) (by kernel_rfl) (congrArg (fun b => some (BO b, ([] : Fo))) (bad ?_).symm)
        rintro ⟨⟨c1, c2, c3⟩, c4⟩
        rw [hM, hT] at c3
        rw [c3 (of_decide_eq_true b)] at hh
        cases hh
      · rename_i b _ _ _ c _
        have := of_decide_eq_true b
        have := of_decide_eq_true c
        omega
      · rename_i b _ _ _ c _
        have := of_decide_eq_true b
        have := of_decide_eq_true c
        omega
      · rename_i a _ b _ c _
        refine hnext (x.Map.length - (i + 1)) _ _ (h_iMap x (IntKind.i64.wrap ((i : Int) + 1))) ([some (.box (mapO .d (rPageMap x)))]) (by omega) (fun k => by kernel_rfl) ⟨i + 1, by rw [wrap_nat i (by omega)], rfl, rfl, by omega, good (fin a) (fun _ => c) (fun h0 => absurd (of_decide_eq_false hh) (by omega))⟩
      · rename_i b _
        refine Eq.trans (b := some (BO false, [])) (by kernel_rfl) (congrArg (fun b => some (BO b, ([] : Fo))) (bad fun ⟨_, c4⟩ => ?_).symm)
        exact (any1 hh).elim fun k ⟨hk, he⟩ => c4 (by rw [hM]; exact of_decide_eq_true b) k hk he
      · rename_i a _ b _ c _
        have hb := of_decide_eq_false b
        refine hnext (x.Map.length - (i + 1)) _ _ (h_iMap x (IntKind.i64.wrap ((i : Int) + 1))) ([some (.box (mapO .d (rPageMap x)))]) (by omega) (fun k => by kernel_rfl) ⟨i + 1, by rw [wrap_nat i (by omega)], rfl, rfl, by omega, good (fin a) (fun hn => absurd hn hb) (fun _ => any2 hh)⟩
      · rename_i b _
        have := of_decide_eq_false b
        have := of_decide_eq_false hh
        omega
    · rename_i h
      have hlt : i = x.Map.length := by have := of_decide_eq_false h; simp at this; omega
      rw [show okMap x = true from pB_true ⟨hB, fun j hj => hinv j (by omega)⟩]
      show _ = _
      kernel_rfl
  all_goals (rw [show okMap x = false from pB_false (fun h => by have hb := h.1; unfold Base at hb; clear hlp hcl; simp [inR] at *; try omega)])
  all_goals kernel_rfl

abbrev bM (x : PageMap) : Fo := [some (.box (mapO .d (rPageMap x)))]
def h_sMap (i : Int) : List V := ([.bp 0 0, .dead, .dead, IN i] ++ List.replicate 106 .dead : List V)
def h_sMap2 (i k : Int) : List V := ([.bp 0 0, .dead, .dead, IN i, IN k] ++ List.replicate 105 .dead : List V)
theorem f_sMap (x : PageMap) : callL E 136 [.bp 0 0] (bM x) = some (BO (okMap x), bM x) := by
  refine callW (fu := Try.f136) rfl rfl (x.Map.length + 1) ?_
  intro lp cl hlp hcl
  generalize hN : x.Map.length + 1 = N
  conv => lhs; whnf
  repeat' (first
    | (rw [cl_eq hcl (f_size _ _ _)]; rotate_left; exact rfl; exact rfl; conv => lhs; whnf)
    | (split <;> rename_i hh <;> (try rw [hh]) <;> conv => lhs; whnf))
  rotate_right
  · rename_i g1 _
    have hB : Base x := by
      unfold Base
      simp at g1 hh
      omega
    have hB1 : x.Map.length ≤ 48 := hB.1.2
    try rw [hlp]
    refine loop_rule (fun d t F => ∃ i : Nat, t = h_sMap i ∧ F = bM x ∧ d = x.Map.length - i ∧ i ≤ x.Map.length ∧ ∀ j, j < i → MapAt x j) ?_ N (x.Map.length) _ _ (by omega) ⟨h_sMap 0, (bM x), fun k => by kernel_rfl, 0, rfl, rfl, by omega, by omega, fun j hj => by omega⟩
    rintro d t F ⟨i, rfl, rfl, rfl, hi, hinv⟩ next hnext
    conv => lhs; whnf
    split
    · rename_i h
      have hlt : i < x.Map.length := by have := of_decide_eq_true h; simp at this; omega
      have hlt2 : i < x.Trimmed.length := by rw [hB.2.2]; exact hlt
      have hg := get_map rI x.Map i hlt
      have hg2 := get_map rB x.Trimmed i hlt2
      have hM : mp x i = x.Map[i] := by simp [mp, hlt]
      have hT : tr x i = x.Trimmed[i] := by simp [tr, hlt2]
      have hbp := mul_in hB.2.1.1 hB.2.1.2.1 hB.2.1.2.2.1 hB.2.1.2.2.2.1
      have hw : IntKind.i64.wrap (IntKind.i64.wrap (x.Blocks * x.Pages) - 1) = x.Blocks * x.Pages - 1 := by
        rw [wrap_sm (x.Blocks * x.Pages) (by omega) (by omega), wrap_sm _ (by omega) (by omega)]
      have bad : ¬ MapAt x i → okMap x = false := fun hc => pB_false fun h => hc (h.2 i hlt)
      have inner : ∀ (q1 : -1 ≤ x.Map[i] ∧ x.Map[i] ≤ x.Blocks * x.Pages - 1) (q2 : x.Map[i] < 0 → x.Trimmed[i] = false), (∀ k, k < i → ¬ (0 ≤ mp x i ∧ mp x k = mp x i)) → ∀ j, j < i + 1 → MapAt x j := by
        intro q1 q2 q3 j hj
        by_cases he : j = i
        · subst he
          unfold MapAt
          refine ⟨⟨by rw [hM]; exact q1.1, by rw [hM]; exact q1.2, by rw [hM, hT]; exact q2⟩, fun h0 k hk he => q3 k hk ⟨h0, he⟩⟩
        · exact hinv j (by omega)
      conv => lhs; whnf
      repeat' (first
        | (rw [hg]; conv => lhs; whnf)
        | (rw [hg2]; conv => lhs; whnf)
        | (rw [cl_eq hcl (f_l00In _ _ _)]; rotate_left; exact rfl; exact rfl; conv => lhs; whnf)
        | (split <;> rename_i hh <;> (try rw [hh]) <;> conv => lhs; whnf))
      · refine Eq.trans (b := some (BO false, bM x)) (by kernel_rfl) (congrArg (fun b => some (BO b, bM x)) (bad ?_).symm)
        rintro ⟨⟨c1, c2, c3⟩, c4⟩
        rw [hM] at c1 c2
        rw [hw] at hh
        simp [inR] at hh
        omega
      · rename_i b _
        refine Eq.trans (b := some (BO false, bM x)) (by kernel_rfl) (congrArg (fun b => some (BO b, bM x)) (bad ?_).symm)
        rintro ⟨⟨c1, c2, c3⟩, c4⟩
        rw [hM, hT] at c3
        rw [c3 (of_decide_eq_true b)] at hh
        cases hh
      · rename_i a _ b _
        have q2 : x.Map[i] < 0 → x.Trimmed[i] = false := fun _ => hh
        have q1 : -1 ≤ x.Map[i] ∧ x.Map[i] ≤ x.Blocks * x.Pages - 1 := by rw [hw] at a; simp [inR] at a; exact a
        try rw [hlp]
        refine loop_rule (fun d t F => ∃ k : Nat, t = h_sMap2 i k ∧ F = bM x ∧ d = i - k ∧ k ≤ i ∧ ∀ j, j < k → ¬ (0 ≤ mp x i ∧ mp x j = mp x i)) ?_ N (i) _ _ (by omega) ⟨h_sMap2 i 0, (bM x), fun k => by kernel_rfl, 0, rfl, rfl, by omega, by omega, fun j hj => by omega⟩
        rintro d t F ⟨k, rfl, rfl, rfl, hik, hinvk⟩ nextk hnextk
        conv => lhs; whnf
        split
        · rename_i hk
          have hk1 : k < i := by have := of_decide_eq_true hk; omega
          have hgk := get_map rI x.Map k (by omega)
          have hMk : mp x k = x.Map[k] := by simp [mp, show k < x.Map.length by omega]
          conv => lhs; whnf
          repeat' (first
            | (rw [hg]; conv => lhs; whnf)
            | (rw [hgk]; conv => lhs; whnf)
            | (split <;> rename_i hh <;> (try rw [hh]) <;> conv => lhs; whnf))
          · rename_i c _
            refine Eq.trans (b := some (BO false, bM x)) (by kernel_rfl) (congrArg (fun b => some (BO b, bM x)) (bad fun ⟨_, c4⟩ => ?_).symm)
            exact c4 (by rw [hM]; exact of_decide_eq_true c) k hk1 (by rw [hM, hMk]; simpa using hh)
          · refine hnextk (i - (k + 1)) _ _ (h_sMap2 i (IntKind.i64.wrap ((k : Int) + 1))) (bM x) (by omega) (fun k => by kernel_rfl) ⟨k + 1, by rw [wrap_nat k (by omega)], rfl, rfl, by omega, fun j hj => if e : j = k then by subst e; rw [hM, hMk]; exact fun h => by simp [h.2] at hh else hinvk j (by omega)⟩
          · refine hnextk (i - (k + 1)) _ _ (h_sMap2 i (IntKind.i64.wrap ((k : Int) + 1))) (bM x) (by omega) (fun k => by kernel_rfl) ⟨k + 1, by rw [wrap_nat k (by omega)], rfl, rfl, by omega, fun j hj => if e : j = k then by subst e; rw [hM, hMk]; exact fun h => absurd h.1 (of_decide_eq_false hh) else hinvk j (by omega)⟩
        · rename_i hk
          have hk1 : k = i := by have := of_decide_eq_false hk; omega
          conv => lhs; whnf
          refine hnext (x.Map.length - (i + 1)) _ _ (h_sMap (IntKind.i64.wrap ((i : Int) + 1))) (bM x) (by omega) (fun k => by kernel_rfl) ⟨i + 1, by rw [wrap_nat i (by omega)], rfl, rfl, by omega, inner q1 q2 (fun j hj => hinvk j (by omega))⟩
      · rename_i a _
        have q2 : x.Map[i] < 0 → x.Trimmed[i] = false := fun hn => absurd hn (of_decide_eq_false hh)
        have q1 : -1 ≤ x.Map[i] ∧ x.Map[i] ≤ x.Blocks * x.Pages - 1 := by rw [hw] at a; simp [inR] at a; exact a
        try rw [hlp]
        refine loop_rule (fun d t F => ∃ k : Nat, t = h_sMap2 i k ∧ F = bM x ∧ d = i - k ∧ k ≤ i ∧ ∀ j, j < k → ¬ (0 ≤ mp x i ∧ mp x j = mp x i)) ?_ N (i) _ _ (by omega) ⟨h_sMap2 i 0, (bM x), fun k => by kernel_rfl, 0, rfl, rfl, by omega, by omega, fun j hj => by omega⟩
        rintro d t F ⟨k, rfl, rfl, rfl, hik, hinvk⟩ nextk hnextk
        conv => lhs; whnf
        split
        · rename_i hk
          have hk1 : k < i := by have := of_decide_eq_true hk; omega
          have hgk := get_map rI x.Map k (by omega)
          have hMk : mp x k = x.Map[k] := by simp [mp, show k < x.Map.length by omega]
          conv => lhs; whnf
          repeat' (first
            | (rw [hg]; conv => lhs; whnf)
            | (rw [hgk]; conv => lhs; whnf)
            | (split <;> rename_i hh <;> (try rw [hh]) <;> conv => lhs; whnf))
          · rename_i c _
            refine Eq.trans (b := some (BO false, bM x)) (by kernel_rfl) (congrArg (fun b => some (BO b, bM x)) (bad fun ⟨_, c4⟩ => ?_).symm)
            exact c4 (by rw [hM]; exact of_decide_eq_true c) k hk1 (by rw [hM, hMk]; simpa using hh)
          · refine hnextk (i - (k + 1)) _ _ (h_sMap2 i (IntKind.i64.wrap ((k : Int) + 1))) (bM x) (by omega) (fun k => by kernel_rfl) ⟨k + 1, by rw [wrap_nat k (by omega)], rfl, rfl, by omega, fun j hj => if e : j = k then by subst e; rw [hM, hMk]; exact fun h => by simp [h.2] at hh else hinvk j (by omega)⟩
          · refine hnextk (i - (k + 1)) _ _ (h_sMap2 i (IntKind.i64.wrap ((k : Int) + 1))) (bM x) (by omega) (fun k => by kernel_rfl) ⟨k + 1, by rw [wrap_nat k (by omega)], rfl, rfl, by omega, fun j hj => if e : j = k then by subst e; rw [hM, hMk]; exact fun h => absurd h.1 (of_decide_eq_false hh) else hinvk j (by omega)⟩
        · rename_i hk
          have hk1 : k = i := by have := of_decide_eq_false hk; omega
          conv => lhs; whnf
          refine hnext (x.Map.length - (i + 1)) _ _ (h_sMap (IntKind.i64.wrap ((i : Int) + 1))) (bM x) (by omega) (fun k => by kernel_rfl) ⟨i + 1, by rw [wrap_nat i (by omega)], rfl, rfl, by omega, inner q1 q2 (fun j hj => hinvk j (by omega))⟩
    · rename_i h
      have hlt : i = x.Map.length := by have := of_decide_eq_false h; simp at this; omega
      rw [show okMap x = true from pB_true ⟨hB, fun j hj => hinv j (by omega)⟩]
      show _ = _
      kernel_rfl
  all_goals (rw [show okMap x = false from pB_false (fun h => by have hb := h.1; unfold Base at hb; clear hlp hcl; simp at *; try omega)])
  all_goals kernel_rfl

def h_sAt (x : PageMap) (p i : Int) : List V := ([.bp 0 0, IN p, .dead, .dead, .dead, IN i] ++ List.replicate 23 .dead : List V)
theorem f_sAt (x : PageMap) (p : Int) (hl : x.Map.length ≤ 1048576) : callL E 137 [.bp 0 0, IN p] (bM x) = some (IN (atM x p), bM x) := by
  refine callW (fu := Try.f137) rfl rfl (x.Map.length + 1) ?_
  intro lp cl hlp hcl
  generalize hN : x.Map.length + 1 = N
  conv => lhs; whnf
  try rw [hlp]
  refine loop_rule (fun d t F => ∃ i : Nat, t = h_sAt x p i ∧ F = bM x ∧ d = x.Map.length - i ∧ i ≤ x.Map.length ∧ ∀ j (hj : j < i) (h2 : j < x.Map.length), ¬ (0 ≤ p ∧ x.Map[j] = p)) ?_ N (x.Map.length) _ _ (by omega) ⟨h_sAt x p 0, (bM x), fun k => by kernel_rfl, 0, rfl, rfl, by omega, by omega, fun j hj => by omega⟩
  rintro d t F ⟨i, rfl, rfl, rfl, hi, hinv⟩ next hnext
  conv => lhs; whnf
  split
  · rename_i h
    have hlt : i < x.Map.length := by have := of_decide_eq_true h; simp at this; omega
    have hg := get_map rI x.Map i hlt
    conv => lhs; whnf
    repeat' (first
      | (rw [hg]; conv => lhs; whnf)
      | (split <;> rename_i hh <;> (try rw [hh]) <;> conv => lhs; whnf))
    · rename_i a _ 
      have h1 := of_decide_eq_true a
      have h2 : x.Map[i] = p := by simpa using hh
      rw [show atM x p = i from (if_neg (by omega)).trans (idxP_some hlt (decide_eq_true h2.symm) (fun j hj => decide_eq_false fun e => hinv j hj (by omega) ⟨h1, e.symm⟩))]
      show _ = _
      kernel_rfl
    · have h2 : ¬ x.Map[i] = p := by simpa using hh
      refine hnext (x.Map.length - (i + 1)) _ _ (h_sAt x p (IntKind.i64.wrap ((i : Int) + 1))) (bM x) (by omega) (fun k => by kernel_rfl) ⟨i + 1, by rw [wrap_nat i (by omega)], rfl, rfl, by omega, fun j hj h3 => if e : j = i then by subst e; exact fun h => h2 h.2 else hinv j (by omega) h3⟩
    · have h2 := of_decide_eq_false hh
      refine hnext (x.Map.length - (i + 1)) _ _ (h_sAt x p (IntKind.i64.wrap ((i : Int) + 1))) (bM x) (by omega) (fun k => by kernel_rfl) ⟨i + 1, by rw [wrap_nat i (by omega)], rfl, rfl, by omega, fun j hj h3 => if e : j = i then by subst e; exact fun h => h2 h.1 else hinv j (by omega) h3⟩
  · rename_i h
    have hlt : i = x.Map.length := by have := of_decide_eq_false h; simp at this; omega
    subst hlt
    have : atM x p = -1 := by
      unfold atM
      split
      · rfl
      · exact idxP_none fun j hj => decide_eq_false fun e => hinv j hj hj ⟨by omega, e.symm⟩
    rw [this]
    show _ = _
    kernel_rfl

noncomputable def lgB (x : PageMap) (p : Int) : Bool := okMap x && !decide (atM x p < 0)
noncomputable def lgN (x : PageMap) (p : Int) : Int := match lgB x p with
  | true => atM x p
  | false => 0
theorem f_sLog (x : PageMap) (p : Int) (hl : x.Map.length ≤ 1048576) : callL E 75 [vPageMap x, IN p] [] = some (.tup [IN (lgN x p), BO (lgB x p)], []) := by
  refine callW (fu := Try.f75) rfl rfl (1) ?_
  intro lp cl hlp hcl
  conv => lhs; whnf
  unfold lgN lgB
  rw [cl_eq hcl (f_sMap x)]
  rotate_left
  · show _ = _
    kernel_rfl
  · show _ = _
    kernel_rfl
  conv => lhs; whnf
  cases g : okMap x
  · show _ = _
    kernel_rfl
  · conv => lhs; whnf
    rw [cl_eq hcl (f_sAt x p hl)]
    rotate_left
    · show _ = _
      kernel_rfl
    · show _ = _
      kernel_rfl
    conv => lhs; whnf
    cases g2 : decide (atM x p < 0)
    · conv => lhs; whnf
      rw [cl_eq hcl (f_sAt x p hl)]
      rotate_left
      · show _ = _
        kernel_rfl
      · show _ = _
        kernel_rfl
      show _ = _
      kernel_rfl
    · show _ = _
      kernel_rfl
theorem f_iLog (x : PageMap) (p : Int) (hl : x.Map.length ≤ 1048576) : callL E 77 [vPageMap x, IN p] [] = some (.tup [IN (lgN x p), BO (lgB x p)], []) := by
  refine callW (fu := Try.f77) rfl rfl (1) ?_
  intro lp cl hlp hcl
  conv => lhs; whnf
  unfold lgN lgB
  rw [cl_eq hcl (f_iMap x)]
  rotate_left
  · show _ = _
    kernel_rfl
  · show _ = _
    kernel_rfl
  conv => lhs; whnf
  cases g : okMap x
  · show _ = _
    kernel_rfl
  · conv => lhs; whnf
    rw [cl_eq hcl (f_iAt x p hl)]
    rotate_left
    · show _ = _
      kernel_rfl
    · show _ = _
      kernel_rfl
    conv => lhs; whnf
    cases g2 : decide (atM x p < 0)
    · conv => lhs; whnf
      rw [cl_eq hcl (f_iAt x p hl)]
      rotate_left
      · show _ = _
        kernel_rfl
      · show _ = _
        kernel_rfl
      show _ = _
      kernel_rfl
    · show _ = _
      kernel_rfl
theorem f_law (x : PageMap) (p : Int) (hk : okPageMap x) (hp : i64r p) : callL E 14 [vPageMap x, IN p] [] = some (BO true, []) := by
  have ht : totPageMap x = x.Map.length + x.Trimmed.length := rfl
  refine callW (fu := Try.f14) rfl rfl (1) ?_
  intro lp cl hlp hcl
  conv => lhs; whnf
  rw [cl_eq hcl (f_szPageMap x hk 1048576 (by omega) (by omega))]
  rotate_left
  · show _ = _
    kernel_rfl
  · show _ = _
    kernel_rfl
  conv => lhs; whnf
  by_cases q : ((totPageMap x : Nat) : Int) ≤ 1048576
  rotate_left
  · rw [szr_neg q]
    show _ = _
    kernel_rfl
  rw [szr_pos q]
  conv => lhs; whnf
  rw [decide_eq_false (show ¬ (1048576 - ((totPageMap x : Nat) : Int) < 0) by omega)]
  conv => lhs; whnf
  repeat' (first
    | (rw [cl_eq hcl (f_toPageMap x (by omega))]; rotate_left; exact rfl; exact rfl; conv => lhs; whnf)
    | (rw [cl_eq hcl (f_sLog x p (by omega))]; rotate_left; exact rfl; exact rfl; conv => lhs; whnf)
    | (rw [cl_eq hcl (f_iLog x p (by omega))]; rotate_left; exact rfl; exact rfl; conv => lhs; whnf)
    | (rw [cl_eq hcl (f_eqPageMap x (by omega))]; rotate_left; exact rfl; exact rfl; conv => lhs; whnf)
    | (rw [bne_self_eq_false]; conv => lhs; whnf)
    | (rw [not_beq_self]; conv => lhs; whnf)
    | (rw [beq_self_eq_true]; conv => lhs; whnf))
  show _ = _
  kernel_rfl

open Go.ChangeShapes Go.WideShapes Go.ChangeAt Go.RowKit
theorem own : ownKnob Try.prog.godebug = none := by kernel_rfl
theorem laidOut : laidOutB Try.prog = true := by kernel_rfl
theorem lifted (os : Os) (started : os.Started) (H : Type) (enc : TypeId × Value → H) :
    ReturnsInHanded {} Try.checked os 14 .any (Rows.fnExactLogicalAtSpec.pre6 enc Try.prog Try.f14 Rows.fnExactLogicalAtRow.domain false) (Rows.fnExactLogicalAtSpec.post enc Try.prog Try.f14 false true false false) := by
  refine returnsInHanded_of_change_sized (C := Try.checked) own started (by kernel_rfl) Try.func14
    (ChangeSpec.witness6 (enc := enc) (C := Try.checked) false ⟨#[], #[.agg #[(.int .i64 0), (.int .i64 0), (.slice none 0 0), (.slice none 0 0)], .int .i64 0], []⟩ 8 (by kernel_rfl) (by kernel_rfl) (by kernel_rfl) (by kernel_rfl)) ?_
  intro W base args ds gs before hval0 hW hcnd hsz0 _
  have hval : ∀ (j : Nat) t v, Try.f14.params[j]? = some t → args[j]? = some v → Value.okWide Try.prog W .any base t v := hval0
  have hW' := hW
  obtain ⟨p, q, hA0, hV, rfl, hfz, hnd⟩ := hW
  have hA : DataW.TrodAll enc Try.prog W 0 (fun _ => true) true Try.f14.params.toList args.toList ds p := hA0
  rw [Try.params14] at hA hval
  obtain ⟨v0, vs0, d0, ds0, p0, q0, hargs0, rfl, rfl, h0, r0⟩ := trodAll_cons hA
  obtain ⟨v1, vs1, d1, ds1, p1, q1, hargs1, rfl, rfl, h1, r1⟩ := trodAll_cons r0
  obtain ⟨rfl, rfl, rfl⟩ := trodAll_nil r1
  obtain rfl : args = #[v0, v1] := by cases args; simp_all
  obtain ⟨rfl, rfl⟩ := trodVars_none hV
  have k0 := h0
  have lt0 : ∀ x ∈ p0, x.block < W.heap.size := by obtain ⟨m, hm⟩ := k0; exact DataW.trod_lt m _ _ _ hm
  obtain ⟨dd0, o0, e0⟩ := open_arg (ty := tyPageMap) (by kernel_rfl) (hval 0 104 v0 rfl rfl) h0
  obtain ⟨x0, rfl, ok0⟩ := of_PageMap o0
  have k1 := h1
  have lt1 : ∀ x ∈ p1, x.block < W.heap.size := by obtain ⟨m, hm⟩ := k1; exact DataW.trod_lt m _ _ _ hm
  obtain ⟨dd1, o1, e1⟩ := open_arg (ty := (.int .i64)) (by kernel_rfl) (hval 1 2 v1 rfl rfl) h1
  obtain ⟨x1, rfl, ok1⟩ := of_I o1
  refine (law_calls ok (f_law x0 x1 ok0 ok1) (vals := #[v0, v1]) rfl (fun i c u g1 g2 => ?_)).mono fun e W' ⟨he, bel⟩ => ?_
  · match i, g1, g2 with
    | 0, g1, g2 => simp at g1 g2; subst g1; subst g2; exact e0
    | 1, g1, g2 => simp at g1 g2; subst g1; subst g2; exact e1
  subst he
  exact ⟨_, rfl, _, _, _, [], _, [], hW', trodAll_mk1 (shut_bool Try.underlying4 _), (trodAll_cons_mk (Below.trod laidOut (by kernel_rfl) (of_decide_eq_true (by kernel_rfl)) k0 bel lt0) (trodAll_cons_mk (Below.trod laidOut (by kernel_rfl) (of_decide_eq_true (by kernel_rfl)) k1 bel lt1) trodAll_mk0)), rfl, bel.frame _, fun h => by cases h⟩
theorem over : Rows.fnExactLogicalAtRow.holds Try.pinned (OpenSpec.ofChange Rows.fnExactLogicalAtSpec) :=
  OpenClaim.holds_of_wide 14 Try.f14 rfl rfl rfl rfl rfl rfl rfl ⟨rfl, rfl, rfl, rfl, rfl⟩ rfl rfl rfl rfl rfl (by kernel_rfl) Try.func14 (by kernel_rfl)
    (of_decide_eq_true (by kernel_rfl)) (by unfold Func.isWrapper; first | (rw [if_pos (by decide +kernel)]; kernel_rfl) | (rw [if_neg (by decide +kernel)]; exact ⟨rfl, rfl⟩))
    (fun os started H enc _ => lifted os started H enc)
theorem proved : Rows.FnExactLogicalAtSaid := over

end Go.Proofs.Ytgcdkchdgeppdaa.T12
namespace Go.Proofs.Ytgcdkchdgeppdaa
theorem fnExactLogicalAt_holds : Rows.FnExactLogicalAtSaid := T12.proved
end Go.Proofs.Ytgcdkchdgeppdaa

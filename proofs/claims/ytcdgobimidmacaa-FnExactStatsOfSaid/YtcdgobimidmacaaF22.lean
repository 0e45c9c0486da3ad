/- FnExactStatsOf: what its functions come to, and the row; conditions: none. -/
import Derived.Test.YtcdgobimidmacaaT22
import Derived.Test.YtcdgobimidmacaaEr
import Derived.Test.YtcdgobimidmacaaRows
import Derived.WalkKit
import Derived.ProofKit
import Derived.OpenShut
import Derived.ShutString
import Derived.ChangeOld
import Derived.Below
import Derived.SizedLaws
namespace Go.Proofs.Ytcdgobimidmacaa.T22
open Go.Proofs.YtcdgobimidmacaaE
set_option maxRecDepth 100000
set_option linter.unusedVariables false
set_option linter.unusedSimpArgs false

theorem f_szInt64S (l : List Int) (hk : okL i64r l) (left : Int) (h0 : 0 ≤ left) (h1 : left ≤ 1048576) : callL E 127 [.d (.arr (l.map rI)), IN left] [] = some (IN (szr (List.length l) left), []) := by
  have hl := hk.1
  refine callW (fu := Try.f127) rfl rfl rfl (l.length + 1) ?_
  intro lp cl hlp hcl
  generalize hN : l.length + 1 = N
  conv => lhs; whnf
  have hw : IntKind.i64.wrap (left - ((l.map rI).length : Int)) = left - (l.length : Int) := by rw [IntKind.wrap_i64, List.length_map]; omega
  rw [hw]
  by_cases q : (l.length : Int) ≤ left
  rotate_left
  · rw [decide_eq_true (show left - (l.length : Int) < 0 by omega), szr_neg q]
    show _ = _
    kernel_rfl
  rw [decide_eq_false (show ¬ (left - (l.length : Int) < 0) by omega), szr_pos q]
  show _ = _
  kernel_rfl

theorem f_szBoolS (l : List Bool) (hk : okL okB l) (left : Int) (h0 : 0 ≤ left) (h1 : left ≤ 1048576) : callL E 128 [.d (.arr (l.map rB)), IN left] [] = some (IN (szr (List.length l) left), []) := by
  have hl := hk.1
  refine callW (fu := Try.f128) rfl rfl rfl (l.length + 1) ?_
  intro lp cl hlp hcl
  generalize hN : l.length + 1 = N
  conv => lhs; whnf
  have hw : IntKind.i64.wrap (left - ((l.map rB).length : Int)) = left - (l.length : Int) := by rw [IntKind.wrap_i64, List.length_map]; omega
  rw [hw]
  by_cases q : (l.length : Int) ≤ left
  rotate_left
  · rw [decide_eq_true (show left - (l.length : Int) < 0 by omega), szr_neg q]
    show _ = _
    kernel_rfl
  rw [decide_eq_false (show ¬ (left - (l.length : Int) < 0) by omega), szr_pos q]
  show _ = _
  kernel_rfl

theorem f_szPageMap (x : PageMap) (hk : okPageMap x) (left : Int) (h0 : 0 ≤ left) (h1 : left ≤ 1048576) : callL E 45 [vPageMap x, IN left] [] = some (IN (szr (totPageMap x) left), []) := by
  have hT : totPageMap x = List.length x.Map + List.length x.Trimmed := rfl
  have ⟨kBlocks, kPages, kMap, kTrimmed⟩ := hk
  refine callW (fu := Try.f45) rfl rfl rfl 1 ?_
  intro lp cl hlp hcl
  conv => lhs; whnf
  rw [cl_eq hcl (f_szInt64S x.Map kMap (left) (by omega) (by omega))]
  rotate_left
  · show _ = _
    kernel_rfl
  · show _ = _
    kernel_rfl
  by_cases q0 : ((List.length x.Map : Nat) : Int) ≤ left
  rotate_left
  · rw [szr_neg q0, szr_neg (by omega)]
    show _ = _
    kernel_rfl
  rw [szr_pos q0]
  conv => lhs; whnf
  rw [decide_eq_false (show ¬ (left - ((List.length x.Map : Nat) : Int) < 0) by omega)]
  conv => lhs; whnf
  rw [cl_eq hcl (f_szBoolS x.Trimmed kTrimmed ((left - ((List.length x.Map : Nat) : Int))) (by omega) (by omega))]
  rotate_left
  · show _ = _
    kernel_rfl
  · show _ = _
    kernel_rfl
  by_cases q1 : ((List.length x.Trimmed : Nat) : Int) ≤ (left - ((List.length x.Map : Nat) : Int))
  rotate_left
  · rw [szr_neg q1, szr_neg (by omega)]
    show _ = _
    kernel_rfl
  rw [szr_pos q1]
  conv => lhs; whnf
  rw [decide_eq_false (show ¬ ((left - ((List.length x.Map : Nat) : Int)) - ((List.length x.Trimmed : Nat) : Int) < 0) by omega)]
  conv => lhs; whnf
  rw [szr_pos (show ((totPageMap x : Nat) : Int) ≤ left by omega), show left - ((totPageMap x : Nat) : Int) = ((left - ((List.length x.Map : Nat) : Int)) - ((List.length x.Trimmed : Nat) : Int)) by omega]
  show _ = _
  kernel_rfl

def h_toInt64S (l : List Int) (n : Int) : List V := ([.d (.arr (l.map rI)), .dead, .dead, .sl 0, IN n] ++ List.replicate 17 .dead : List V)
def z_toInt64S : List D := [.lit (.int .i64 0)]
theorem f_toInt64S (l : List Int) (ht : List.length l ≤ 1048576) : callL E 48 [.d (.arr (l.map rI))] [] = some (.sl 0, [some (.arr 2 1 (l.map rI))]) := by
  have hl : l.length ≤ 1048576 := ht
  refine callW (fu := Try.f48) rfl rfl rfl (l.length + 1) ?_
  intro lp cl hlp hcl
  generalize hN : l.length + 1 = N
  conv => lhs; whnf
  rw [mkOk_nat (l.map rI).length 8 1 (by simp; omega) rfl rfl]
  conv => lhs; whnf
  rw [hlp]
  refine loop_rule (fun d t F => ∃ i : Nat, t = h_toInt64S l i ∧ F = [some (.arr 2 1 ((l.take i).map rI ++ List.replicate (l.length - i) z_toInt64S))] ∧ d = l.length - i ∧ i ≤ l.length) ?_ N l.length _ _ (by omega) ⟨h_toInt64S l 0, [some (.arr 2 1 (List.replicate (l.map rI).length z_toInt64S))], fun k => by kernel_rfl, 0, rfl, by simp, by omega, by omega⟩
  rintro d t F ⟨i, rfl, rfl, rfl, hi⟩ next hnext
  conv => lhs; whnf
  split
  · rename_i h
    have hlt : i < l.length := by have := of_decide_eq_true h; simp at this; omega
    have hg := get_map rI l i hlt
    conv => lhs; whnf
    repeat (rw [hg]; conv => lhs; whnf)
    have hq := get_row rI l z_toInt64S i hlt
    repeat (rw [hq]; conv => lhs; whnf)
    refine hnext (l.length - (i + 1)) _ _ (h_toInt64S l (IntKind.i64.wrap ((i : Int) + 1))) [some (.arr 2 1 (((l.take i).map rI ++ List.replicate (l.length - i) z_toInt64S).set ((i : Nat) : Int).toNat (rI l[i])))] (by omega) (fun k => by kernel_rfl) ⟨i + 1, by rw [wrap_nat i (by omega)], by rw [take_row rI l z_toInt64S i hlt], rfl, by omega⟩
  · rename_i h
    have hlt : i = l.length := by have := of_decide_eq_false h; simp at this; omega
    conv => lhs; whnf
    subst hlt
    rw [List.take_length, Nat.sub_self, List.replicate_zero, List.append_nil]
    show _ = _
    kernel_rfl

def h_toBoolS (l : List Bool) (n : Int) : List V := ([.d (.arr (l.map rB)), .dead, .dead, .sl 0, IN n] ++ List.replicate 17 .dead : List V)
def z_toBoolS : List D := [.lit (.bool false)]
theorem f_toBoolS (l : List Bool) (ht : List.length l ≤ 1048576) : callL E 49 [.d (.arr (l.map rB))] [] = some (.sl 0, [some (.arr 4 1 (l.map rB))]) := by
  have hl : l.length ≤ 1048576 := ht
  refine callW (fu := Try.f49) rfl rfl rfl (l.length + 1) ?_
  intro lp cl hlp hcl
  generalize hN : l.length + 1 = N
  conv => lhs; whnf
  rw [mkOk_nat (l.map rB).length 1 1 (by simp; omega) rfl rfl]
  conv => lhs; whnf
  rw [hlp]
  refine loop_rule (fun d t F => ∃ i : Nat, t = h_toBoolS l i ∧ F = [some (.arr 4 1 ((l.take i).map rB ++ List.replicate (l.length - i) z_toBoolS))] ∧ d = l.length - i ∧ i ≤ l.length) ?_ N l.length _ _ (by omega) ⟨h_toBoolS l 0, [some (.arr 4 1 (List.replicate (l.map rB).length z_toBoolS))], fun k => by kernel_rfl, 0, rfl, by simp, by omega, by omega⟩
  rintro d t F ⟨i, rfl, rfl, rfl, hi⟩ next hnext
  conv => lhs; whnf
  split
  · rename_i h
    have hlt : i < l.length := by have := of_decide_eq_true h; simp at this; omega
    have hg := get_map rB l i hlt
    conv => lhs; whnf
    repeat (rw [hg]; conv => lhs; whnf)
    have hq := get_row rB l z_toBoolS i hlt
    repeat (rw [hq]; conv => lhs; whnf)
    refine hnext (l.length - (i + 1)) _ _ (h_toBoolS l (IntKind.i64.wrap ((i : Int) + 1))) [some (.arr 4 1 (((l.take i).map rB ++ List.replicate (l.length - i) z_toBoolS).set ((i : Nat) : Int).toNat (rB l[i])))] (by omega) (fun k => by kernel_rfl) ⟨i + 1, by rw [wrap_nat i (by omega)], by rw [take_row rB l z_toBoolS i hlt], rfl, by omega⟩
  · rename_i h
    have hlt : i = l.length := by have := of_decide_eq_false h; simp at this; omega
    conv => lhs; whnf
    subst hlt
    rw [List.take_length, Nat.sub_self, List.replicate_zero, List.append_nil]
    show _ = _
    kernel_rfl

abbrev oPageMap (x : PageMap) : V := .agg [.d (dI x.Blocks), .d (dI x.Pages), .sl 0, .sl 1]
abbrev FPageMap (x : PageMap) : Fo := [some (.arr 2 1 (x.Map.map rI)), some (.arr 4 1 (x.Trimmed.map rB))]
theorem f_toPageMap (x : PageMap) (ht : totPageMap x ≤ 1048576) : callL E 47 [vPageMap x] [] = some (oPageMap x, FPageMap x) := by
  have hT : totPageMap x = List.length x.Map + List.length x.Trimmed := rfl
  refine callW (fu := Try.f47) rfl rfl rfl 1 ?_
  intro lp cl hlp hcl
  conv => lhs; whnf
  rw [cl_eq hcl (f_toInt64S x.Map (by omega))]
  rotate_left
  · show _ = _
    kernel_rfl
  · show _ = _
    kernel_rfl
  conv => lhs; whnf
  rw [cl_eq hcl (f_toBoolS x.Trimmed (by omega))]
  rotate_left
  · show _ = _
    kernel_rfl
  · show _ = _
    kernel_rfl
  show _ = _
  kernel_rfl

def h_eqInt64S (l : List Int) (n : Int) : List V := ([.d (.arr (l.map rI)), .d (.arr (l.map rI)), .dead, .dead, .dead, IN n] ++ List.replicate 20 .dead : List V)
theorem f_eqInt64S (l : List Int) (ht : List.length l ≤ 1048576) : callL E 53 [.d (.arr (l.map rI)), .d (.arr (l.map rI))] [] = some (BO true, []) := by
  have hl : l.length ≤ 1048576 := ht
  refine callW (fu := Try.f53) rfl rfl rfl (l.length + 1) ?_
  intro lp cl hlp hcl
  generalize hN : l.length + 1 = N
  conv => lhs; whnf
  first | rw [bne_self_eq_false] | rw [not_beq_self] | rw [beq_self_eq_true]
  conv => lhs; whnf
  rw [hlp]
  refine loop_rule (fun d t F => ∃ i : Nat, t = h_eqInt64S l i ∧ F = [] ∧ d = l.length - i ∧ i ≤ l.length) ?_ N l.length _ _ (by omega) ⟨h_eqInt64S l 0, [], fun k => by kernel_rfl, 0, rfl, rfl, by omega, by omega⟩
  rintro d t F ⟨i, rfl, rfl, rfl, hi⟩ next hnext
  conv => lhs; whnf
  split
  · rename_i h
    have hlt : i < l.length := by have := of_decide_eq_true h; simp at this; omega
    have hg := get_map rI l i hlt
    conv => lhs; whnf
    repeat (rw [hg]; conv => lhs; whnf)
    first | rw [bne_self_eq_false] | rw [not_beq_self] | rw [beq_self_eq_true]
    conv => lhs; whnf
    refine hnext (l.length - (i + 1)) _ _ (h_eqInt64S l (IntKind.i64.wrap ((i : Int) + 1))) [] (by omega) (fun k => by kernel_rfl) ⟨i + 1, by rw [wrap_nat i (by omega)], rfl, rfl, by omega⟩
  · rename_i h
    show _ = _
    kernel_rfl

def h_eqBoolS (l : List Bool) (n : Int) : List V := ([.d (.arr (l.map rB)), .d (.arr (l.map rB)), .dead, .dead, .dead, IN n] ++ List.replicate 20 .dead : List V)
theorem f_eqBoolS (l : List Bool) (ht : List.length l ≤ 1048576) : callL E 54 [.d (.arr (l.map rB)), .d (.arr (l.map rB))] [] = some (BO true, []) := by
  have hl : l.length ≤ 1048576 := ht
  refine callW (fu := Try.f54) rfl rfl rfl (l.length + 1) ?_
  intro lp cl hlp hcl
  generalize hN : l.length + 1 = N
  conv => lhs; whnf
  first | rw [bne_self_eq_false] | rw [not_beq_self] | rw [beq_self_eq_true]
  conv => lhs; whnf
  rw [hlp]
  refine loop_rule (fun d t F => ∃ i : Nat, t = h_eqBoolS l i ∧ F = [] ∧ d = l.length - i ∧ i ≤ l.length) ?_ N l.length _ _ (by omega) ⟨h_eqBoolS l 0, [], fun k => by kernel_rfl, 0, rfl, rfl, by omega, by omega⟩
  rintro d t F ⟨i, rfl, rfl, rfl, hi⟩ next hnext
  conv => lhs; whnf
  split
  · rename_i h
    have hlt : i < l.length := by have := of_decide_eq_true h; simp at this; omega
    have hg := get_map rB l i hlt
    conv => lhs; whnf
    repeat (rw [hg]; conv => lhs; whnf)
    first | rw [bne_self_eq_false] | rw [not_beq_self] | rw [beq_self_eq_true]
    conv => lhs; whnf
    refine hnext (l.length - (i + 1)) _ _ (h_eqBoolS l (IntKind.i64.wrap ((i : Int) + 1))) [] (by omega) (fun k => by kernel_rfl) ⟨i + 1, by rw [wrap_nat i (by omega)], rfl, rfl, by omega⟩
  · rename_i h
    show _ = _
    kernel_rfl

theorem f_eqPageMap (x : PageMap) (ht : totPageMap x ≤ 1048576) : callL E 52 [vPageMap x, vPageMap x] [] = some (BO true, []) := by
  have hT : totPageMap x = List.length x.Map + List.length x.Trimmed := rfl
  refine callW (fu := Try.f52) rfl rfl rfl 1 ?_
  intro lp cl hlp hcl
  conv => lhs; whnf
  first | rw [bne_self_eq_false] | rw [not_beq_self] | rw [beq_self_eq_true]
  conv => lhs; whnf
  first | rw [bne_self_eq_false] | rw [not_beq_self] | rw [beq_self_eq_true]
  conv => lhs; whnf
  rw [cl_eq hcl (f_eqInt64S x.Map (by omega))]
  rotate_left
  · show _ = _
    kernel_rfl
  · show _ = _
    kernel_rfl
  conv => lhs; whnf
  rw [cl_eq hcl (f_eqBoolS x.Trimmed (by omega))]
  rotate_left
  · show _ = _
    kernel_rfl
  · show _ = _
    kernel_rfl
  show _ = _
  kernel_rfl

theorem f_eqBlockStat (x : BlockStat) : callL E 131 [vBlockStat x, vBlockStat x] [] = some (BO true, []) := by
  refine callW (fu := Try.f131) rfl rfl rfl 1 ?_
  intro lp cl hlp hcl
  conv => lhs; whnf
  first | rw [bne_self_eq_false] | rw [not_beq_self] | rw [beq_self_eq_true]
  conv => lhs; whnf
  first | rw [bne_self_eq_false] | rw [not_beq_self] | rw [beq_self_eq_true]
  conv => lhs; whnf
  first | rw [bne_self_eq_false] | rw [not_beq_self] | rw [beq_self_eq_true]
  show _ = _
  kernel_rfl

def h_eqBlockStatS (l : List BlockStat) (n : Int) : List V := ([.d (.arr (l.map rBlockStat)), .d (.arr (l.map rBlockStat)), .dead, .dead, .dead, IN n] ++ List.replicate 21 .dead : List V)
theorem f_eqBlockStatS (l : List BlockStat) (ht : List.length l ≤ 1048576) : callL E 51 [.d (.arr (l.map rBlockStat)), .d (.arr (l.map rBlockStat))] [] = some (BO true, []) := by
  have hl : l.length ≤ 1048576 := ht
  refine callW (fu := Try.f51) rfl rfl rfl (l.length + 1) ?_
  intro lp cl hlp hcl
  generalize hN : l.length + 1 = N
  conv => lhs; whnf
  first | rw [bne_self_eq_false] | rw [not_beq_self] | rw [beq_self_eq_true]
  conv => lhs; whnf
  rw [hlp]
  refine loop_rule (fun d t F => ∃ i : Nat, t = h_eqBlockStatS l i ∧ F = [] ∧ d = l.length - i ∧ i ≤ l.length) ?_ N l.length _ _ (by omega) ⟨h_eqBlockStatS l 0, [], fun k => by kernel_rfl, 0, rfl, rfl, by omega, by omega⟩
  rintro d t F ⟨i, rfl, rfl, rfl, hi⟩ next hnext
  conv => lhs; whnf
  split
  · rename_i h
    have hlt : i < l.length := by have := of_decide_eq_true h; simp at this; omega
    have hg := get_map rBlockStat l i hlt
    conv => lhs; whnf
    repeat (rw [hg]; conv => lhs; whnf)
    rw [cl_eq hcl (f_eqBlockStat l[i])]
    rotate_left
    · show _ = _
      kernel_rfl
    · show _ = _
      kernel_rfl
    conv => lhs; whnf
    refine hnext (l.length - (i + 1)) _ _ (h_eqBlockStatS l (IntKind.i64.wrap ((i : Int) + 1))) [] (by omega) (fun k => by kernel_rfl) ⟨i + 1, by rw [wrap_nat i (by omega)], rfl, rfl, by omega⟩
  · rename_i h
    show _ = _
    kernel_rfl

def mkInt (k : Int) : Int := (k)
def mksInt (k : Int) (n : Nat) : List Int := (List.range n).map fun (j : Nat) => mkInt (k + 1 * (j : Int))
theorem mksInt_succ (k : Int) (n : Nat) : mksInt k (n + 1) = mksInt k n ++ [mkInt (k + 1 * (n : Int))] := by unfold mksInt; rw [List.range_succ, List.map_append]; rfl
theorem mksInt_len (k : Int) (n : Nat) : (mksInt k n).length = n := by simp [mksInt]

def h_markInt64S (k n : Int) : List V := ([.sl 0, IN k, .dead, .dead, .dead, IN n] ++ List.replicate 13 .dead : List V)
theorem f_markInt64S (l : List Int) (k : Int) (hl : l.length ≤ 1048576) (h0 : 0 ≤ k) (h1 : k ≤ 1125899906842624) : callL E 56 [.sl 0, IN k] [some (.arr 2 1 (l.map rI))] = some (IN (k + 1 * (l.length : Int)), [some (.arr 2 1 ((mksInt k l.length).map rI))]) := by
  refine callW (fu := Try.f56) rfl rfl rfl (l.length + 1) ?_
  intro lp cl hlp hcl
  generalize hN : l.length + 1 = N
  conv => lhs; whnf
  rw [hlp]
  refine loop_rule (fun d t F => ∃ (i : Nat) (r : List Int), t = h_markInt64S (k + 1 * (i : Int)) i ∧ F = [some (.arr 2 1 ((mksInt k i).map rI ++ r.map rI))] ∧ d = l.length - i ∧ i + r.length = l.length) ?_ N l.length _ _ (by omega) ⟨h_markInt64S k 0, [some (.arr 2 1 (l.map rI))], fun k => by kernel_rfl, 0, l, by simp, rfl, by omega, by omega⟩
  rintro d t F ⟨i, r, rfl, rfl, rfl, hi⟩ next hnext
  have hA : ((mksInt k i).map rI).length = i := by rw [List.length_map, mksInt_len]
  have hs := mksInt_succ k i
  have hRl : ((mksInt k i).map rI ++ r.map rI).length = l.length := by rw [List.length_append, hA, List.length_map]; omega
  conv => lhs; whnf
  rw [hRl]
  split
  · rename_i h
    have hlt : i < l.length := by have := of_decide_eq_true h; omega
    obtain ⟨a, r, rfl⟩ : ∃ a r', r = a :: r' := by
      cases r with
      | nil => simp at hi; omega
      | cons a r' => exact ⟨a, r', rfl⟩
    rw [List.length_cons] at hi
    rw [List.map_cons]
    generalize hK : k + 1 * (i : Int) = K at *
    generalize hAA : (mksInt k i).map rI = A at *
    generalize hB : r.map rI = B at *
    have hw0 : IntKind.i64.wrap (K + 1) = K + 1 := wrap_sm _ (by omega) (by omega)
    conv => lhs; whnf
    repeat' (first
      | (rw [get_mid hA]; conv => lhs; whnf)
      | (rw [set_mid hA]; conv => lhs; whnf)
      | (rw [hw0]; conv => lhs; whnf))
    refine hnext (l.length - (i + 1)) _ _ (h_markInt64S (K + 1) (IntKind.i64.wrap ((i : Int) + 1))) [some (.arr 2 1 (A ++ rI (mkInt K) :: B))] (by omega) (fun k => by kernel_rfl) ⟨i + 1, r, ?_, ?_, rfl, by omega⟩
    · rw [wrap_nat i (by omega), ← hK, show k + 1 * ((i + 1 : Nat) : Int) = k + 1 * (i : Int) + 1 by omega]
    · rw [hs, List.map_append, List.append_assoc, hAA, hB]
      rfl
  · rename_i h
    have hlt : i = l.length := by have := of_decide_eq_false h; omega
    obtain rfl : r = [] := List.eq_nil_of_length_eq_zero (by omega)
    rw [List.map_nil, List.append_nil, hlt]
    show _ = _
    kernel_rfl

def mkBool (k : Int) : Bool := (Int.tmod (k) 3 == 0)
def mksBool (k : Int) (n : Nat) : List Bool := (List.range n).map fun (j : Nat) => mkBool (k + 1 * (j : Int))
theorem mksBool_succ (k : Int) (n : Nat) : mksBool k (n + 1) = mksBool k n ++ [mkBool (k + 1 * (n : Int))] := by unfold mksBool; rw [List.range_succ, List.map_append]; rfl
theorem mksBool_len (k : Int) (n : Nat) : (mksBool k n).length = n := by simp [mksBool]

def h_markBoolS (k n : Int) : List V := ([.sl 0, IN k, .dead, .dead, .dead, IN n] ++ List.replicate 15 .dead : List V)
theorem f_markBoolS (l : List Bool) (k : Int) (hl : l.length ≤ 1048576) (h0 : 0 ≤ k) (h1 : k ≤ 1125899906842624) : callL E 57 [.sl 0, IN k] [some (.arr 4 1 (l.map rB))] = some (IN (k + 1 * (l.length : Int)), [some (.arr 4 1 ((mksBool k l.length).map rB))]) := by
  refine callW (fu := Try.f57) rfl rfl rfl (l.length + 1) ?_
  intro lp cl hlp hcl
  generalize hN : l.length + 1 = N
  conv => lhs; whnf
  rw [hlp]
  refine loop_rule (fun d t F => ∃ (i : Nat) (r : List Bool), t = h_markBoolS (k + 1 * (i : Int)) i ∧ F = [some (.arr 4 1 ((mksBool k i).map rB ++ r.map rB))] ∧ d = l.length - i ∧ i + r.length = l.length) ?_ N l.length _ _ (by omega) ⟨h_markBoolS k 0, [some (.arr 4 1 (l.map rB))], fun k => by kernel_rfl, 0, l, by simp, rfl, by omega, by omega⟩
  rintro d t F ⟨i, r, rfl, rfl, rfl, hi⟩ next hnext
  have hA : ((mksBool k i).map rB).length = i := by rw [List.length_map, mksBool_len]
  have hs := mksBool_succ k i
  have hRl : ((mksBool k i).map rB ++ r.map rB).length = l.length := by rw [List.length_append, hA, List.length_map]; omega
  conv => lhs; whnf
  rw [hRl]
  split
  · rename_i h
    have hlt : i < l.length := by have := of_decide_eq_true h; omega
    obtain ⟨a, r, rfl⟩ : ∃ a r', r = a :: r' := by
      cases r with
      | nil => simp at hi; omega
      | cons a r' => exact ⟨a, r', rfl⟩
    rw [List.length_cons] at hi
    rw [List.map_cons]
    generalize hK : k + 1 * (i : Int) = K at *
    generalize hAA : (mksBool k i).map rB = A at *
    generalize hB : r.map rB = B at *
    have hw0 : IntKind.i64.wrap (K + 1) = K + 1 := wrap_sm _ (by omega) (by omega)
    conv => lhs; whnf
    repeat' (first
      | (rw [get_mid hA]; conv => lhs; whnf)
      | (rw [set_mid hA]; conv => lhs; whnf)
      | (rw [hw0]; conv => lhs; whnf))
    refine hnext (l.length - (i + 1)) _ _ (h_markBoolS (K + 1) (IntKind.i64.wrap ((i : Int) + 1))) [some (.arr 4 1 (A ++ rB (mkBool K) :: B))] (by omega) (fun k => by kernel_rfl) ⟨i + 1, r, ?_, ?_, rfl, by omega⟩
    · rw [wrap_nat i (by omega), ← hK, show k + 1 * ((i + 1 : Nat) : Int) = k + 1 * (i : Int) + 1 by omega]
    · rw [hs, List.map_append, List.append_assoc, hAA, hB]
      rfl
  · rename_i h
    have hlt : i = l.length := by have := of_decide_eq_false h; omega
    obtain rfl : r = [] := List.eq_nil_of_length_eq_zero (by omega)
    rw [List.map_nil, List.append_nil, hlt]
    show _ = _
    kernel_rfl

def mkBlockStat (k : Int) : BlockStat := ⟨(k), (k + 1), (Int.tmod (k + 2) 3 == 0)⟩
def mksBlockStat (k : Int) (n : Nat) : List BlockStat := (List.range n).map fun (j : Nat) => mkBlockStat (k + 3 * (j : Int))
theorem mksBlockStat_succ (k : Int) (n : Nat) : mksBlockStat k (n + 1) = mksBlockStat k n ++ [mkBlockStat (k + 3 * (n : Int))] := by unfold mksBlockStat; rw [List.range_succ, List.map_append]; rfl
theorem mksBlockStat_len (k : Int) (n : Nat) : (mksBlockStat k n).length = n := by simp [mksBlockStat]

def h_markBlockStatS (k n : Int) : List V := ([.sl 0, IN k, .dead, .dead, .dead, IN n] ++ List.replicate 30 .dead : List V)
set_option maxHeartbeats 8000000 in
theorem f_markBlockStatS (l : List BlockStat) (k : Int) (hl : l.length ≤ 1048576) (h0 : 0 ≤ k) (h1 : k ≤ 1125899906842624) : callL E 58 [.sl 0, IN k] [some (.arr 39 3 (l.map rBlockStat))] = some (IN (k + 3 * (l.length : Int)), [some (.arr 39 3 ((mksBlockStat k l.length).map rBlockStat))]) := by
  refine callW (fu := Try.f58) rfl rfl rfl (l.length + 1) ?_
  intro lp cl hlp hcl
  generalize hN : l.length + 1 = N
  conv => lhs; whnf
  rw [hlp]
  refine loop_rule (fun d t F => ∃ (i : Nat) (r : List BlockStat), t = h_markBlockStatS (k + 3 * (i : Int)) i ∧ F = [some (.arr 39 3 ((mksBlockStat k i).map rBlockStat ++ r.map rBlockStat))] ∧ d = l.length - i ∧ i + r.length = l.length) ?_ N l.length _ _ (by omega) ⟨h_markBlockStatS k 0, [some (.arr 39 3 (l.map rBlockStat))], fun k => by kernel_rfl, 0, l, by simp, rfl, by omega, by omega⟩
  rintro d t F ⟨i, r, rfl, rfl, rfl, hi⟩ next hnext
  have hA : ((mksBlockStat k i).map rBlockStat).length = i := by rw [List.length_map, mksBlockStat_len]
  have hs := mksBlockStat_succ k i
  have hRl : ((mksBlockStat k i).map rBlockStat ++ r.map rBlockStat).length = l.length := by rw [List.length_append, hA, List.length_map]; omega
  conv => lhs; whnf
  rw [hRl]
  split
  · rename_i h
    have hlt : i < l.length := by have := of_decide_eq_true h; omega
    obtain ⟨a, r, rfl⟩ : ∃ a r', r = a :: r' := by
      cases r with
      | nil => simp at hi; omega
      | cons a r' => exact ⟨a, r', rfl⟩
    rw [List.length_cons] at hi
    rw [List.map_cons]
    generalize hK : k + 3 * (i : Int) = K at *
    generalize hAA : (mksBlockStat k i).map rBlockStat = A at *
    generalize hB : r.map rBlockStat = B at *
    have hw0 : IntKind.i64.wrap (K + 1) = K + 1 := wrap_sm _ (by omega) (by omega)
    have hw1 : IntKind.i64.wrap (K + 2) = K + 2 := wrap_sm _ (by omega) (by omega)
    have hw2 : IntKind.i64.wrap (K + 3) = K + 3 := wrap_sm _ (by omega) (by omega)
    have hx1 : IntKind.i64.wrap (K + 1 + 1) = K + 2 := by rw [show K + 1 + 1 = K + 2 by omega]; exact hw1
    have hx2 : IntKind.i64.wrap (K + 2 + 1) = K + 3 := by rw [show K + 2 + 1 = K + 3 by omega]; exact hw2
    conv => lhs; whnf
    rw [get_mid hA]
    conv => lhs; whnf
    try (rw [get_mid hA]; conv => lhs; whnf)
    try rw [hw0]
    erw [set_mid (r := [dI (a.Live), dI (a.Age), dB (a.Usable)]) (r' := [dI ((K)), dI (a.Age), dB (a.Usable)]) hA]
    conv => lhs; whnf
    rw [get_mid hA]
    conv => lhs; whnf
    try (rw [get_mid hA]; conv => lhs; whnf)
    try rw [hx1]
    erw [set_mid (r := [dI ((K)), dI (a.Age), dB (a.Usable)]) (r' := [dI ((K)), dI ((K + 1)), dB (a.Usable)]) hA]
    conv => lhs; whnf
    rw [get_mid hA]
    conv => lhs; whnf
    try (rw [get_mid hA]; conv => lhs; whnf)
    try rw [hx2]
    erw [set_mid (r := [dI ((K)), dI ((K + 1)), dB (a.Usable)]) (r' := [dI ((K)), dI ((K + 1)), dB ((Int.tmod (K + 2) 3 == 0))]) hA]
    refine hnext (l.length - (i + 1)) _ _ (h_markBlockStatS (K + 3) (IntKind.i64.wrap ((i : Int) + 1))) [some (.arr 39 3 (A ++ rBlockStat (mkBlockStat K) :: B))] (by omega) (fun k => by kernel_rfl) ⟨i + 1, r, ?_, ?_, rfl, by omega⟩
    · rw [wrap_nat i (by omega), ← hK, show k + 3 * ((i + 1 : Nat) : Int) = k + 3 * (i : Int) + 3 by omega]
    · rw [hs, List.map_append, List.append_assoc, hAA, hB]
      rfl
  · rename_i h
    have hlt : i = l.length := by have := of_decide_eq_false h; omega
    obtain rfl : r = [] := List.eq_nil_of_length_eq_zero (by omega)
    rw [List.map_nil, List.append_nil, hlt]
    show _ = _
    kernel_rfl

def h_heldBlockStatS (k : Int) (m : Nat) (c n : Int) : List V := ([.d (.arr ((mksBlockStat k m).map rBlockStat)), IN c, .dead, .dead, .dead, IN n] ++ List.replicate 36 .dead : List V)
set_option maxHeartbeats 8000000 in
theorem f_heldBlockStatS (m : Nat) (k : Int) (hl : m ≤ 1048576) (h0 : 0 ≤ k) (h1 : k ≤ 1125899906842624) : callL E 59 [.d (.arr ((mksBlockStat k m).map rBlockStat)), IN k] [] = some (IN (k + 3 * (m : Int)), []) := by
  have hL := mksBlockStat_len k m
  refine callW (fu := Try.f59) rfl rfl rfl (m + 1) ?_
  intro lp cl hlp hcl
  generalize hN : m + 1 = N
  conv => lhs; whnf
  rw [hlp]
  refine loop_rule (fun d t F => ∃ i : Nat, t = h_heldBlockStatS k m (k + 3 * (i : Int)) i ∧ F = [] ∧ d = m - i ∧ i ≤ m) ?_ N m _ _ (by omega) ⟨h_heldBlockStatS k m k 0, [], fun k => by kernel_rfl, 0, by simp, rfl, by omega, by omega⟩
  rintro d t F ⟨i, rfl, rfl, rfl, hi⟩ next hnext
  conv => lhs; whnf
  split
  · rename_i h
    have hlt : i < (mksBlockStat k m).length := by have := of_decide_eq_true h; simp at this; omega
    have hg := get_map rBlockStat (mksBlockStat k m) i hlt
    have hv : (mksBlockStat k m)[i] = mkBlockStat (k + 3 * (i : Int)) := by simp [mksBlockStat]
    rw [hv] at hg
    generalize hK : k + 3 * (i : Int) = K at *
    rw [show mkBlockStat K = ⟨(K), (K + 1), (Int.tmod (K + 2) 3 == 0)⟩ from rfl] at hg
    replace hg : ((mksBlockStat k m).map rBlockStat)[((i : Nat) : Int).toNat]? = some [dI ((K)), dI ((K + 1)), dB ((Int.tmod (K + 2) 3 == 0))] := hg
    have hw0 : IntKind.i64.wrap (K + 1) = K + 1 := wrap_sm _ (by omega) (by omega)
    have hw1 : IntKind.i64.wrap (K + 2) = K + 2 := wrap_sm _ (by omega) (by omega)
    have hw2 : IntKind.i64.wrap (K + 3) = K + 3 := wrap_sm _ (by omega) (by omega)
    have hx1 : IntKind.i64.wrap (K + 1 + 1) = K + 2 := by rw [show K + 1 + 1 = K + 2 by omega]; exact hw1
    have hx2 : IntKind.i64.wrap (K + 2 + 1) = K + 3 := by rw [show K + 2 + 1 = K + 3 by omega]; exact hw2
    conv => lhs; whnf
    repeat' (first
      | (rw [hg]; conv => lhs; whnf)
      | (rw [hw0]; conv => lhs; whnf)
      | (rw [hx1]; conv => lhs; whnf)
      | (rw [hx2]; conv => lhs; whnf)
      | (rw [bne_self_eq_false]; conv => lhs; whnf)
      | (rw [not_beq_self]; conv => lhs; whnf)
      | (rw [beq_self_eq_true]; conv => lhs; whnf))
    refine hnext (m - (i + 1)) _ _ (h_heldBlockStatS k m (K + 3) (IntKind.i64.wrap ((i : Int) + 1))) [] (by omega) (fun k => by kernel_rfl) ⟨i + 1, ?_, rfl, rfl, by omega⟩
    rw [wrap_nat i (by omega), ← hK, show k + 3 * ((i + 1 : Nat) : Int) = k + 3 * (i : Int) + 3 by omega]
  · rename_i h
    have hlt : i = m := by have := of_decide_eq_false h; simp at this; omega
    rw [← hlt]
    show _ = _
    kernel_rfl

theorem f_within (n lo hi : Int) : callL E 93 [IN n, IN lo, IN hi] [] = some (BO (inR n lo hi), []) := by
  refine callW (fu := Try.f93) rfl rfl rfl (1) ?_
  intro lp cl hlp hcl
  conv => lhs; whnf
  unfold inR
  cases h : decide (n ≥ lo)
  all_goals kernel_rfl

theorem f_l00In (n lo hi : Int) : callL E 98 [IN n, IN lo, IN hi] [] = some (BO (inR n lo hi), []) := by
  refine callW (fu := Try.f98) rfl rfl rfl (1) ?_
  intro lp cl hlp hcl
  conv => lhs; whnf
  unfold inR
  cases h : decide (n ≥ lo)
  all_goals kernel_rfl


abbrev mp (x : PageMap) (i : Nat) : Int := x.Map.getD i 0
abbrev tr (x : PageMap) (i : Nat) : Bool := x.Trimmed.getD i false
/-- An entry may stand so. -/
def MapAt (x : PageMap) (i : Nat) : Prop := (-1 ≤ mp x i ∧ mp x i ≤ x.Blocks * x.Pages - 1 ∧ (mp x i < 0 → tr x i = false)) ∧ (0 ≤ mp x i → ∀ k, k < i → mp x k ≠ mp x i)
def Base (x : PageMap) : Prop := (1 ≤ x.Map.length ∧ x.Map.length ≤ 48) ∧ (1 ≤ x.Blocks ∧ x.Blocks ≤ 640 ∧ 1 ≤ x.Pages ∧ x.Pages ≤ 640 ∧ x.Blocks * x.Pages ≤ 640) ∧ x.Trimmed.length = x.Map.length
noncomputable def okMap (x : PageMap) : Bool := pB (Base x ∧ ∀ i, i < x.Map.length → MapAt x i)

theorem mul_in {b p : Int} (h1 : 1 ≤ b) (h2 : b ≤ 640) (h3 : 1 ≤ p) (h4 : p ≤ 640) : 1 ≤ b * p ∧ b * p ≤ 409600 := by
  constructor
  · have := Int.mul_le_mul h1 h3 (by omega) (by omega)
    simpa using this
  · have := Int.mul_le_mul h2 h4 (by omega) (by omega)
    simpa using this

theorem f_size (l b p : Int) : callL E 179 [IN l, IN b, IN p] [] = some (BO (decide ((1 ≤ l ∧ l ≤ 48) ∧ 1 ≤ b ∧ b ≤ 640 ∧ 1 ≤ p ∧ p ≤ 640 ∧ b * p ≤ 640)), []) := by
  refine callW (fu := Try.f179) rfl rfl rfl (1) ?_
  intro lp cl hlp hcl
  conv => lhs; whnf
  repeat' (first
    | (rw [cl_eq hcl (f_l00In _ _ _)]; rotate_left; exact rfl; exact rfl; conv => lhs; whnf)
    | (split <;> rename_i hh <;> (try rw [hh]) <;> conv => lhs; whnf))
  · rename_i _ g1 _ g2 _
    refine fin_b rfl ?_
    have h1 := inR_iff.mp g1
    have h2 := inR_iff.mp g2
    have h3 := inR_iff.mp hh
    have h4 := mul_in h2.1 h2.2 h3.1 h3.2
    rw [Bool.eq_iff_iff]
    simp only [decide_eq_true_eq, wrap_sm (b * p) (by omega) (by omega)]
    omega
  all_goals refine fin_b rfl ?_
  all_goals (clear hlp hcl; rw [Bool.eq_iff_iff]; simp [inR] at *; try omega)

theorem f_sizeOk (b p : Int) : callL E 177 [IN b, IN p] [] = some (BO (decide (1 ≤ b ∧ b ≤ 640 ∧ 1 ≤ p ∧ p ≤ 640 ∧ b * p ≤ 640)), []) := by
  refine callW (fu := Try.f177) rfl rfl rfl (1) ?_
  intro lp cl hlp hcl
  conv => lhs; whnf
  rw [cl_eq hcl (f_within b 1 640)]
  rotate_left
  · show _ = _
    kernel_rfl
  · show _ = _
    kernel_rfl
  conv => lhs; whnf
  cases g : inR b 1 640
  · rw [decide_eq_false (show ¬ _ from fun hc => by simp [inR] at g; omega)]
    show _ = _
    kernel_rfl
  · conv => lhs; whnf
    have hb := inR_iff.mp g
    rw [quo_of (show b ≠ 0 by omega)]
    conv => lhs; whnf
    repeat' (first
      | (rw [cl_eq hcl (f_within _ _ _)]; rotate_left; exact rfl; exact rfl; conv => lhs; whnf))
    refine fin_b rfl ?_
    have h1 : Int.tdiv 640 b = 640 / b := Int.tdiv_eq_ediv_of_nonneg (by omega)
    have h2 : 0 ≤ 640 / b := Int.ediv_nonneg (by omega) (by omega)
    have h3 : 640 / b ≤ 640 := Int.ediv_le_self _ (by omega)
    have h4 : p ≤ 640 / b ↔ p * b ≤ 640 := Int.le_ediv_iff_mul_le (by omega)
    have h5 : p * b = b * p := Int.mul_comm p b
    rw [Bool.eq_iff_iff, h1, wrap_sm (640 / b) (by omega) (by omega), inR_iff, decide_eq_true_eq, h4, h5]
    constructor
    · intro h
      have : b * p ≥ 1 * p := Int.mul_le_mul_of_nonneg_right hb.1 (by omega)
      omega
    · omega

/-- Where a page lies. -/
def atP (l : List Int) (p : Int) : Int := idxP (fun v => decide (p = v)) l
def h_Index (l : List Int) (p i : Int) : List V := ([.d (.arr (l.map rI)), IN p, .dead, .dead, .dead, .dead, .dead, IN (l.map rI).length, IN i] ++ List.replicate 10 .dead : List V)
theorem f_Index (l : List Int) (p : Int) (hl : l.length ≤ 1048576) : callL E 119 [.d (.arr (l.map rI)), IN p] [] = some (IN (atP l p), []) := by
  refine callW (fu := Try.f119) rfl rfl rfl (l.length + 1) ?_
  intro lp cl hlp hcl
  generalize hN : l.length + 1 = N
  conv => lhs; whnf
  try rw [hlp]
  refine loop_rule (fun d t F => ∃ i : Nat, t = h_Index l p i ∧ F = [] ∧ d = l.length - i ∧ i ≤ l.length ∧ ∀ j (hj : j < i) (h2 : j < l.length), decide (p = l[j]) = false) ?_ N (l.length) _ _ (by omega) ⟨h_Index l p 0, ([]), fun k => by kernel_rfl, 0, rfl, rfl, by omega, by omega, fun j hj => by omega⟩
  rintro d t F ⟨i, rfl, rfl, rfl, hi, hinv⟩ next hnext
  conv => lhs; whnf
  split
  · rename_i h
    have hlt : i < l.length := by have := of_decide_eq_true h; simp at this; omega
    have hg := get_map rI l i hlt
    conv => lhs; whnf
    repeat' (first
      | (rw [hg]; conv => lhs; whnf)
      | (split <;> rename_i hh <;> (try rw [hh]) <;> conv => lhs; whnf))
    · have hh' : decide (p = l[i]) = true := by simpa using hh
      rw [show atP l p = i from idxP_some hlt hh' (fun j hj => hinv j hj (by omega))]
      show _ = _
      kernel_rfl
    · have hh' : decide (p = l[i]) = false := by simpa using hh
      refine hnext (l.length - (i + 1)) _ _ (h_Index l p (IntKind.i64.wrap ((i : Int) + 1))) ([]) (by omega) (fun k => by kernel_rfl) ⟨i + 1, by rw [wrap_nat i (by omega)], rfl, rfl, by omega, fun j hj h3 => if e : j = i then by subst e; exact hh' else hinv j (by omega) h3⟩
  · rename_i h
    have hlt : i = l.length := by have := of_decide_eq_false h; simp at this; omega
    subst hlt
    rw [show atP l p = -1 from idxP_none (fun j hj => hinv j hj hj)]
    show _ = _
    kernel_rfl
theorem f_Contains (l : List Int) (p : Int) (hl : l.length ≤ 1048576) : callL E 153 [.d (.arr (l.map rI)), IN p] [] = some (BO (l.any fun v => decide (p = v)), []) := by
  refine callW (fu := Try.f153) rfl rfl rfl (1) ?_
  intro lp cl hlp hcl
  conv => lhs; whnf
  rw [cl_eq hcl (f_Index l p hl)]
  rotate_left
  · show _ = _
    kernel_rfl
  · show _ = _
    kernel_rfl
  conv => lhs; whnf
  rw [← idxP_any]
  show _ = _
  kernel_rfl
theorem f_phys (x : PageMap) : callL E 118 [vPageMap x] [] = some (IN (IntKind.i64.wrap (x.Blocks * x.Pages)), []) := by
  refine callW (fu := Try.f118) rfl rfl rfl (1) ?_
  intro lp cl hlp hcl
  conv => lhs; whnf
  show _ = _
  kernel_rfl
def atM (x : PageMap) (p : Int) : Int := if p < 0 then -1 else atP x.Map p
theorem f_iAt (x : PageMap) (p : Int) (hl : x.Map.length ≤ 1048576) : callL E 124 [vPageMap x, IN p] [] = some (IN (atM x p), []) := by
  unfold atM
  refine callW (fu := Try.f124) rfl rfl rfl (1) ?_
  intro lp cl hlp hcl
  conv => lhs; whnf
  cases g : decide (p < 0)
  · rw [if_neg (of_decide_eq_false g)]
    conv => lhs; whnf
    rw [cl_eq hcl (f_Index x.Map p hl)]
    rotate_left
    · show _ = _
      kernel_rfl
    · show _ = _
      kernel_rfl
    show _ = _
    kernel_rfl
  · rw [if_pos (of_decide_eq_true g)]
    show _ = _
    kernel_rfl

def h_iMap (x : PageMap) (i : Int) : List V := ([.dead, .bp 0 0, .dead, .dead, .dead, .dead, .dead, .dead, .dead, .dead, .dead, .dead, .dead, .dead, .dead, .dead, .dead, .dead, .dead, .dead, .dead, .dead, .dead, .dead, .dead, .dead, .dead, .dead, .d (.arr (x.Map.map rI)), IN (x.Map.map rI).length, IN i] ++ List.replicate 34 .dead : List V)
theorem f_iMap (x : PageMap) : callL E 117 [vPageMap x] [] = some (BO (okMap x), []) := by
  refine callW (fu := Try.f117) rfl rfl rfl (x.Map.length + 1) ?_
  intro lp cl hlp hcl
  generalize hN : x.Map.length + 1 = N
  conv => lhs; whnf
  repeat' (first
    | (rw [cl_eq hcl (f_sizeOk _ _)]; rotate_left; exact rfl; exact rfl; conv => lhs; whnf)
    | (rw [cl_eq hcl (f_within _ _ _)]; rotate_left; exact rfl; exact rfl; conv => lhs; whnf)
    | (split <;> rename_i hh <;> (try rw [hh]) <;> conv => lhs; whnf))
  rotate_right
  · rename_i _ g1 _ g2 _
    have hB : Base x := by
      unfold Base
      simp [inR] at g1 g2 hh
      omega
    try rw [hlp]
    refine loop_rule (fun d t F => ∃ i : Nat, t = h_iMap x i ∧ F = [some (.box (mapO .d (rPageMap x)))] ∧ d = x.Map.length - i ∧ i ≤ x.Map.length ∧ ∀ j, j < i → MapAt x j) ?_ N (x.Map.length) _ _ (by omega) ⟨h_iMap x 0, ([some (.box (mapO .d (rPageMap x)))]), fun k => by kernel_rfl, 0, rfl, rfl, by omega, by omega, fun j hj => by omega⟩
    rintro d t F ⟨i, rfl, rfl, rfl, hi, hinv⟩ next hnext
    conv => lhs; whnf
    split
    · rename_i h
      have hlt : i < x.Map.length := by have := of_decide_eq_true h; simp at this; omega
      have hg := get_map rI x.Map i hlt
      have hg2 := get_map rB x.Trimmed i (by rw [hB.2.2]; exact hlt)
      have hal := allLen_map rI 1 rI_len x.Map
      have hB1 : x.Map.length ≤ 48 := hB.1.2
      have hlt2 : i < x.Trimmed.length := by rw [hB.2.2]; exact hlt
      have hle : (x.Map.take i).length ≤ 1048576 := by have := hB.1.2; simp; omega
      have hd1 : decide ((0 : Int) ≤ (i : Int)) = true := decide_eq_true (by omega)
      have hd2 : decide ((i : Int) ≤ ((x.Map.map rI).length : Int)) = true := decide_eq_true (by simp; omega)
      have hsl : List.take ((i : Int).toNat - (0 : Int).toNat) (List.drop (0 : Int).toNat (x.Map.map rI)) = (x.Map.take i).map rI := by simp
      have hM : mp x i = x.Map[i] := by simp [mp, hlt]
      have hT : tr x i = x.Trimmed[i] := by simp [tr, hB.2.2, hlt]
      have hbp := mul_in hB.2.1.1 hB.2.1.2.1 hB.2.1.2.2.1 hB.2.1.2.2.2.1
      have hw : IntKind.i64.wrap (IntKind.i64.wrap (x.Blocks * x.Pages) - 1) = x.Blocks * x.Pages - 1 := by
        rw [wrap_sm (x.Blocks * x.Pages) (by omega) (by omega), wrap_sm _ (by omega) (by omega)]
      have fin : (!inR x.Map[i] (-1) (IntKind.i64.wrap (IntKind.i64.wrap (x.Blocks * x.Pages) - 1))) = false → -1 ≤ x.Map[i] ∧ x.Map[i] ≤ x.Blocks * x.Pages - 1 := by
        intro hf; rw [hw] at hf; simp [inR] at hf; exact hf
      have any1 : ((x.Map.take i).any fun v => decide (x.Map[i] = v)) = true → ∃ k, k < i ∧ mp x k = mp x i := by
        intro ha
        obtain ⟨v, hv, he⟩ := List.any_eq_true.mp ha
        obtain ⟨k, hk, rfl⟩ := List.mem_iff_getElem.mp hv
        have hk2 : k < i := by simp at hk; omega
        have hk3 : k < x.Map.length := by omega
        refine ⟨k, hk2, ?_⟩
        rw [hM, of_decide_eq_true he]
        simp [mp, hk3]
      have any2 : ((x.Map.take i).any fun v => decide (x.Map[i] = v)) = false → ∀ k, k < i → mp x k ≠ mp x i := by
        intro ha k hk he
        have hk3 : k < x.Map.length := by omega
        have := List.any_eq_false.mp ha (x.Map[k]) (by rw [List.mem_iff_getElem]; exact ⟨k, by simp; omega, by simp⟩)
        rw [hM] at he
        simp [mp, hk3] at he
        simp [he] at this
      have good : (-1 ≤ x.Map[i] ∧ x.Map[i] ≤ x.Blocks * x.Pages - 1) → (x.Map[i] < 0 → x.Trimmed[i] = false) → (0 ≤ x.Map[i] → ∀ k, k < i → mp x k ≠ mp x i) → ∀ j, j < i + 1 → MapAt x j := by
        intro q1 q2 q3 j hj
        by_cases he : j = i
        · subst he
          unfold MapAt
          rw [hM, hT]
          exact ⟨⟨q1.1, q1.2, q2⟩, by rw [← hM]; rw [← hM] at q3; exact q3⟩
        · exact hinv j (by omega)
      have bad : ¬ MapAt x i → okMap x = false := fun hc => pB_false fun h => hc (h.2 i hlt)
      conv => lhs; whnf
      repeat' (first
        | (rw [hg]; conv => lhs; whnf)
        | (rw [hg2]; conv => lhs; whnf)
        | (rw [hal]; conv => lhs; whnf)
        | (rw [hd1]; conv => lhs; whnf)
        | (rw [hd2]; conv => lhs; whnf)
        | (rw [hsl]; conv => lhs; whnf)
        | (rw [cl_eq hcl (f_phys x)]; rotate_left; exact rfl; exact rfl; conv => lhs; whnf)
        | (rw [cl_eq hcl (f_within _ _ _)]; rotate_left; exact rfl; exact rfl; conv => lhs; whnf)
        | (rw [cl_eq hcl (f_Contains (x.Map.take i) _ hle)]; rotate_left; exact rfl; exact rfl; conv => lhs; whnf)
        | (split <;> rename_i hh <;> (try rw [hh]) <;> conv => lhs; whnf))
      · refine Eq.trans (b := some (BO false, [])) (by kernel_rfl) (congrArg (fun b => some (BO b, ([] : Fo))) (bad ?_).symm)
        rintro ⟨⟨c1, c2, c3⟩, c4⟩
        rw [hM] at c1 c2
        rw [hw] at hh
        simp [inR] at hh
        omega
      · rename_i b _
        refine Eq.trans (b := some (BO false, [])) (by kernel_rfl) (congrArg (fun b => some (BO b, ([] : Fo))) (bad ?_).symm)
        rintro ⟨⟨c1, c2, c3⟩, c4⟩
        rw [hM, hT] at c3
        rw [c3 (of_decide_eq_true b)] at hh
        cases hh
      · rename_i b _ _ _ c _
        have := of_decide_eq_true b
        have := of_decide_eq_true c
        omega
      · rename_i b _ _ _ c _
        have := of_decide_eq_true b
        have := of_decide_eq_true c
        omega
      · rename_i a _ b _ c _
        refine hnext (x.Map.length - (i + 1)) _ _ (h_iMap x (IntKind.i64.wrap ((i : Int) + 1))) ([some (.box (mapO .d (rPageMap x)))]) (by omega) (fun k => by kernel_rfl) ⟨i + 1, by rw [wrap_nat i (by omega)], rfl, rfl, by omega, good (fin a) (fun _ => c) (fun h0 => absurd (of_decide_eq_false hh) (by omega))⟩
      · rename_i b _
        refine Eq.trans (b := some (BO false, [])) (by kernel_rfl) (congrArg (fun b => some (BO b, ([] : Fo))) (bad fun ⟨_, c4⟩ => ?_).symm)
        exact (any1 hh).elim fun k ⟨hk, he⟩ => c4 (by rw [hM]; exact of_decide_eq_true b) k hk he
      · rename_i a _ b _ c _
        have hb := of_decide_eq_false b
        refine hnext (x.Map.length - (i + 1)) _ _ (h_iMap x (IntKind.i64.wrap ((i : Int) + 1))) ([some (.box (mapO .d (rPageMap x)))]) (by omega) (fun k => by kernel_rfl) ⟨i + 1, by rw [wrap_nat i (by omega)], rfl, rfl, by omega, good (fin a) (fun hn => absurd hn hb) (fun _ => any2 hh)⟩
      · rename_i b _
        have := of_decide_eq_false b
        have := of_decide_eq_false hh
        omega
    · rename_i h
      have hlt : i = x.Map.length := by have := of_decide_eq_false h; simp at this; omega
      rw [show okMap x = true from pB_true ⟨hB, fun j hj => hinv j (by omega)⟩]
      show _ = _
      kernel_rfl
  all_goals (rw [show okMap x = false from pB_false (fun h => by have hb := h.1; unfold Base at hb; clear hlp hcl; simp [inR] at *; try omega)])
  all_goals kernel_rfl

abbrev bM (x : PageMap) : Fo := [some (.box (mapO .d (rPageMap x)))]
def h_sMap (i : Int) : List V := ([.bp 0 0, .dead, .dead, IN i] ++ List.replicate 106 .dead : List V)
def h_sMap2 (i k : Int) : List V := ([.bp 0 0, .dead, .dead, IN i, IN k] ++ List.replicate 105 .dead : List V)
theorem f_sMap (x : PageMap) : callL E 121 [.bp 0 0] (bM x) = some (BO (okMap x), bM x) := by
  refine callW (fu := Try.f121) rfl rfl rfl (x.Map.length + 1) ?_
  intro lp cl hlp hcl
  generalize hN : x.Map.length + 1 = N
  conv => lhs; whnf
  repeat' (first
    | (rw [cl_eq hcl (f_size _ _ _)]; rotate_left; exact rfl; exact rfl; conv => lhs; whnf)
    | (split <;> rename_i hh <;> (try rw [hh]) <;> conv => lhs; whnf))
  rotate_right
  · rename_i g1 _
    have hB : Base x := by
      unfold Base
      simp at g1 hh
      omega
    have hB1 : x.Map.length ≤ 48 := hB.1.2
    try rw [hlp]
    refine loop_rule (fun d t F => ∃ i : Nat, t = h_sMap i ∧ F = bM x ∧ d = x.Map.length - i ∧ i ≤ x.Map.length ∧ ∀ j, j < i → MapAt x j) ?_ N (x.Map.length) _ _ (by omega) ⟨h_sMap 0, (bM x), fun k => by kernel_rfl, 0, rfl, rfl, by omega, by omega, fun j hj => by omega⟩
    rintro d t F ⟨i, rfl, rfl, rfl, hi, hinv⟩ next hnext
    conv => lhs; whnf
    split
    · rename_i h
      have hlt : i < x.Map.length := by have := of_decide_eq_true h; simp at this; omega
      have hlt2 : i < x.Trimmed.length := by rw [hB.2.2]; exact hlt
      have hg := get_map rI x.Map i hlt
      have hg2 := get_map rB x.Trimmed i hlt2
      have hM : mp x i = x.Map[i] := by simp [mp, hlt]
      have hT : tr x i = x.Trimmed[i] := by simp [tr, hlt2]
      have hbp := mul_in hB.2.1.1 hB.2.1.2.1 hB.2.1.2.2.1 hB.2.1.2.2.2.1
      have hw : IntKind.i64.wrap (IntKind.i64.wrap (x.Blocks * x.Pages) - 1) = x.Blocks * x.Pages - 1 := by
        rw [wrap_sm (x.Blocks * x.Pages) (by omega) (by omega), wrap_sm _ (by omega) (by omega)]
      have bad : ¬ MapAt x i → okMap x = false := fun hc => pB_false fun h => hc (h.2 i hlt)
      have inner : ∀ (q1 : -1 ≤ x.Map[i] ∧ x.Map[i] ≤ x.Blocks * x.Pages - 1) (q2 : x.Map[i] < 0 → x.Trimmed[i] = false), (∀ k, k < i → ¬ (0 ≤ mp x i ∧ mp x k = mp x i)) → ∀ j, j < i + 1 → MapAt x j := by
        intro q1 q2 q3 j hj
        by_cases he : j = i
        · subst he
          unfold MapAt
          refine ⟨⟨by rw [hM]; exact q1.1, by rw [hM]; exact q1.2, by rw [hM, hT]; exact q2⟩, fun h0 k hk he => q3 k hk ⟨h0, he⟩⟩
        · exact hinv j (by omega)
      conv => lhs; whnf
      repeat' (first
        | (rw [hg]; conv => lhs; whnf)
        | (rw [hg2]; conv => lhs; whnf)
        | (rw [cl_eq hcl (f_l00In _ _ _)]; rotate_left; exact rfl; exact rfl; conv => lhs; whnf)
        | (split <;> rename_i hh <;> (try rw [hh]) <;> conv => lhs; whnf))
      · refine Eq.trans (b := some (BO false, bM x)) (by kernel_rfl) (congrArg (fun b => some (BO b, bM x)) (bad ?_).symm)
        rintro ⟨⟨c1, c2, c3⟩, c4⟩
        rw [hM] at c1 c2
        rw [hw] at hh
        simp [inR] at hh
        omega
      · rename_i b _
        refine Eq.trans (b := some (BO false, bM x)) (by kernel_rfl) (congrArg (fun b => some (BO b, bM x)) (bad ?_).symm)
        rintro ⟨⟨c1, c2, c3⟩, c4⟩
        rw [hM, hT] at c3
        rw [c3 (of_decide_eq_true b)] at hh
        cases hh
      · rename_i a _ b _
        have q2 : x.Map[i] < 0 → x.Trimmed[i] = false := fun _ => hh
        have q1 : -1 ≤ x.Map[i] ∧ x.Map[i] ≤ x.Blocks * x.Pages - 1 := by rw [hw] at a; simp [inR] at a; exact a
        try rw [hlp]
        refine loop_rule (fun d t F => ∃ k : Nat, t = h_sMap2 i k ∧ F = bM x ∧ d = i - k ∧ k ≤ i ∧ ∀ j, j < k → ¬ (0 ≤ mp x i ∧ mp x j = mp x i)) ?_ N (i) _ _ (by omega) ⟨h_sMap2 i 0, (bM x), fun k => by kernel_rfl, 0, rfl, rfl, by omega, by omega, fun j hj => by omega⟩
        rintro d t F ⟨k, rfl, rfl, rfl, hik, hinvk⟩ nextk hnextk
        conv => lhs; whnf
        split
        · rename_i hk
          have hk1 : k < i := by have := of_decide_eq_true hk; omega
          have hgk := get_map rI x.Map k (by omega)
          have hMk : mp x k = x.Map[k] := by simp [mp, show k < x.Map.length by omega]
          conv => lhs; whnf
          repeat' (first
            | (rw [hg]; conv => lhs; whnf)
            | (rw [hgk]; conv => lhs; whnf)
            | (split <;> rename_i hh <;> (try rw [hh]) <;> conv => lhs; whnf))
          · rename_i c _
            refine Eq.trans (b := some (BO false, bM x)) (by kernel_rfl) (congrArg (fun b => some (BO b, bM x)) (bad fun ⟨_, c4⟩ => ?_).symm)
            exact c4 (by rw [hM]; exact of_decide_eq_true c) k hk1 (by rw [hM, hMk]; simpa using hh)
          · refine hnextk (i - (k + 1)) _ _ (h_sMap2 i (IntKind.i64.wrap ((k : Int) + 1))) (bM x) (by omega) (fun k => by kernel_rfl) ⟨k + 1, by rw [wrap_nat k (by omega)], rfl, rfl, by omega, fun j hj => if e : j = k then by subst e; rw [hM, hMk]; exact fun h => by simp [h.2] at hh else hinvk j (by omega)⟩
          · refine hnextk (i - (k + 1)) _ _ (h_sMap2 i (IntKind.i64.wrap ((k : Int) + 1))) (bM x) (by omega) (fun k => by kernel_rfl) ⟨k + 1, by rw [wrap_nat k (by omega)], rfl, rfl, by omega, fun j hj => if e : j = k then by subst e; rw [hM, hMk]; exact fun h => absurd h.1 (of_decide_eq_false hh) else hinvk j (by omega)⟩
        · rename_i hk
          have hk1 : k = i := by have := of_decide_eq_false hk; omega
          conv => lhs; whnf
          refine hnext (x.Map.length - (i + 1)) _ _ (h_sMap (IntKind.i64.wrap ((i : Int) + 1))) (bM x) (by omega) (fun k => by kernel_rfl) ⟨i + 1, by rw [wrap_nat i (by omega)], rfl, rfl, by omega, inner q1 q2 (fun j hj => hinvk j (by omega))⟩
      · rename_i a _
        have q2 : x.Map[i] < 0 → x.Trimmed[i] = false := fun hn => absurd hn (of_decide_eq_false hh)
        have q1 : -1 ≤ x.Map[i] ∧ x.Map[i] ≤ x.Blocks * x.Pages - 1 := by rw [hw] at a; simp [inR] at a; exact a
        try rw [hlp]
        refine loop_rule (fun d t F => ∃ k : Nat, t = h_sMap2 i k ∧ F = bM x ∧ d = i - k ∧ k ≤ i ∧ ∀ j, j < k → ¬ (0 ≤ mp x i ∧ mp x j = mp x i)) ?_ N (i) _ _ (by omega) ⟨h_sMap2 i 0, (bM x), fun k => by kernel_rfl, 0, rfl, rfl, by omega, by omega, fun j hj => by omega⟩
        rintro d t F ⟨k, rfl, rfl, rfl, hik, hinvk⟩ nextk hnextk
        conv => lhs; whnf
        split
        · rename_i hk
          have hk1 : k < i := by have := of_decide_eq_true hk; omega
          have hgk := get_map rI x.Map k (by omega)
          have hMk : mp x k = x.Map[k] := by simp [mp, show k < x.Map.length by omega]
          conv => lhs; whnf
          repeat' (first
            | (rw [hg]; conv => lhs; whnf)
            | (rw [hgk]; conv => lhs; whnf)
            | (split <;> rename_i hh <;> (try rw [hh]) <;> conv => lhs; whnf))
          · rename_i c _
            refine Eq.trans (b := some (BO false, bM x)) (by kernel_rfl) (congrArg (fun b => some (BO b, bM x)) (bad fun ⟨_, c4⟩ => ?_).symm)
            exact c4 (by rw [hM]; exact of_decide_eq_true c) k hk1 (by rw [hM, hMk]; simpa using hh)
          · refine hnextk (i - (k + 1)) _ _ (h_sMap2 i (IntKind.i64.wrap ((k : Int) + 1))) (bM x) (by omega) (fun k => by kernel_rfl) ⟨k + 1, by rw [wrap_nat k (by omega)], rfl, rfl, by omega, fun j hj => if e : j = k then by subst e; rw [hM, hMk]; exact fun h => by simp [h.2] at hh else hinvk j (by omega)⟩
          · refine hnextk (i - (k + 1)) _ _ (h_sMap2 i (IntKind.i64.wrap ((k : Int) + 1))) (bM x) (by omega) (fun k => by kernel_rfl) ⟨k + 1, by rw [wrap_nat k (by omega)], rfl, rfl, by omega, fun j hj => if e : j = k then by subst e; rw [hM, hMk]; exact fun h => absurd h.1 (of_decide_eq_false hh) else hinvk j (by omega)⟩
        · rename_i hk
          have hk1 : k = i := by have := of_decide_eq_false hk; omega
          conv => lhs; whnf
          refine hnext (x.Map.length - (i + 1)) _ _ (h_sMap (IntKind.i64.wrap ((i : Int) + 1))) (bM x) (by omega) (fun k => by kernel_rfl) ⟨i + 1, by rw [wrap_nat i (by omega)], rfl, rfl, by omega, inner q1 q2 (fun j hj => hinvk j (by omega))⟩
    · rename_i h
      have hlt : i = x.Map.length := by have := of_decide_eq_false h; simp at this; omega
      rw [show okMap x = true from pB_true ⟨hB, fun j hj => hinv j (by omega)⟩]
      show _ = _
      kernel_rfl
  all_goals (rw [show okMap x = false from pB_false (fun h => by have hb := h.1; unfold Base at hb; clear hlp hcl; simp at *; try omega)])
  all_goals kernel_rfl

def h_sAt (x : PageMap) (p i : Int) : List V := ([.bp 0 0, IN p, .dead, .dead, .dead, IN i] ++ List.replicate 23 .dead : List V)
theorem f_sAt (x : PageMap) (p : Int) (hl : x.Map.length ≤ 1048576) : callL E 122 [.bp 0 0, IN p] (bM x) = some (IN (atM x p), bM x) := by
  refine callW (fu := Try.f122) rfl rfl rfl (x.Map.length + 1) ?_
  intro lp cl hlp hcl
  generalize hN : x.Map.length + 1 = N
  conv => lhs; whnf
  try rw [hlp]
  refine loop_rule (fun d t F => ∃ i : Nat, t = h_sAt x p i ∧ F = bM x ∧ d = x.Map.length - i ∧ i ≤ x.Map.length ∧ ∀ j (hj : j < i) (h2 : j < x.Map.length), ¬ (0 ≤ p ∧ x.Map[j] = p)) ?_ N (x.Map.length) _ _ (by omega) ⟨h_sAt x p 0, (bM x), fun k => by kernel_rfl, 0, rfl, rfl, by omega, by omega, fun j hj => by omega⟩
  rintro d t F ⟨i, rfl, rfl, rfl, hi, hinv⟩ next hnext
  conv => lhs; whnf
  split
  · rename_i h
    have hlt : i < x.Map.length := by have := of_decide_eq_true h; simp at this; omega
    have hg := get_map rI x.Map i hlt
    conv => lhs; whnf
    repeat' (first
      | (rw [hg]; conv => lhs; whnf)
      | (split <;> rename_i hh <;> (try rw [hh]) <;> conv => lhs; whnf))
    · rename_i a _ 
      have h1 := of_decide_eq_true a
      have h2 : x.Map[i] = p := by simpa using hh
      rw [show atM x p = i from (if_neg (by omega)).trans (idxP_some hlt (decide_eq_true h2.symm) (fun j hj => decide_eq_false fun e => hinv j hj (by omega) ⟨h1, e.symm⟩))]
      show _ = _
      kernel_rfl
    · have h2 : ¬ x.Map[i] = p := by simpa using hh
      refine hnext (x.Map.length - (i + 1)) _ _ (h_sAt x p (IntKind.i64.wrap ((i : Int) + 1))) (bM x) (by omega) (fun k => by kernel_rfl) ⟨i + 1, by rw [wrap_nat i (by omega)], rfl, rfl, by omega, fun j hj h3 => if e : j = i then by subst e; exact fun h => h2 h.2 else hinv j (by omega) h3⟩
    · have h2 := of_decide_eq_false hh
      refine hnext (x.Map.length - (i + 1)) _ _ (h_sAt x p (IntKind.i64.wrap ((i : Int) + 1))) (bM x) (by omega) (fun k => by kernel_rfl) ⟨i + 1, by rw [wrap_nat i (by omega)], rfl, rfl, by omega, fun j hj h3 => if e : j = i then by subst e; exact fun h => h2 h.1 else hinv j (by omega) h3⟩
  · rename_i h
    have hlt : i = x.Map.length := by have := of_decide_eq_false h; simp at this; omega
    subst hlt
    have : atM x p = -1 := by
      unfold atM
      split
      · rfl
      · exact idxP_none fun j hj => decide_eq_false fun e => hinv j hj hj ⟨by omega, e.symm⟩
    rw [this]
    show _ = _
    kernel_rfl

def h_sAtR (x : PageMap) (p i : Int) : List V := ([(.rp [rPageMap x] 0 0), IN p, .dead, .dead, .dead, IN i] ++ List.replicate 23 .dead : List V)
theorem f_sAtR (x : PageMap) (p : Int) (hl : x.Map.length ≤ 1048576) : callL E 122 [(.rp [rPageMap x] 0 0), IN p] (([] : Fo)) = some (IN (atM x p), ([] : Fo)) := by
  refine callW (fu := Try.f122) rfl rfl rfl (x.Map.length + 1) ?_
  intro lp cl hlp hcl
  generalize hN : x.Map.length + 1 = N
  conv => lhs; whnf
  try rw [hlp]
  refine loop_rule (fun d t F => ∃ i : Nat, t = h_sAtR x p i ∧ F = ([] : Fo) ∧ d = x.Map.length - i ∧ i ≤ x.Map.length ∧ ∀ j (hj : j < i) (h2 : j < x.Map.length), ¬ (0 ≤ p ∧ x.Map[j] = p)) ?_ N (x.Map.length) _ _ (by omega) ⟨h_sAtR x p 0, (([] : Fo)), fun k => by kernel_rfl, 0, rfl, rfl, by omega, by omega, fun j hj => by omega⟩
  rintro d t F ⟨i, rfl, rfl, rfl, hi, hinv⟩ next hnext
  conv => lhs; whnf
  split
  · rename_i h
    have hlt : i < x.Map.length := by have := of_decide_eq_true h; simp at this; omega
    have hg := get_map rI x.Map i hlt
    conv => lhs; whnf
    repeat' (first
      | (rw [hg]; conv => lhs; whnf)
      | (split <;> rename_i hh <;> (try rw [hh]) <;> conv => lhs; whnf))
    · rename_i a _ 
      have h1 := of_decide_eq_true a
      have h2 : x.Map[i] = p := by simpa using hh
      rw [show atM x p = i from (if_neg (by omega)).trans (idxP_some hlt (decide_eq_true h2.symm) (fun j hj => decide_eq_false fun e => hinv j hj (by omega) ⟨h1, e.symm⟩))]
      show _ = _
      kernel_rfl
    · have h2 : ¬ x.Map[i] = p := by simpa using hh
      refine hnext (x.Map.length - (i + 1)) _ _ (h_sAtR x p (IntKind.i64.wrap ((i : Int) + 1))) (([] : Fo)) (by omega) (fun k => by kernel_rfl) ⟨i + 1, by rw [wrap_nat i (by omega)], rfl, rfl, by omega, fun j hj h3 => if e : j = i then by subst e; exact fun h => h2 h.2 else hinv j (by omega) h3⟩
    · have h2 := of_decide_eq_false hh
      refine hnext (x.Map.length - (i + 1)) _ _ (h_sAtR x p (IntKind.i64.wrap ((i : Int) + 1))) (([] : Fo)) (by omega) (fun k => by kernel_rfl) ⟨i + 1, by rw [wrap_nat i (by omega)], rfl, rfl, by omega, fun j hj h3 => if e : j = i then by subst e; exact fun h => h2 h.1 else hinv j (by omega) h3⟩
  · rename_i h
    have hlt : i = x.Map.length := by have := of_decide_eq_false h; simp at this; omega
    subst hlt
    have : atM x p = -1 := by
      unfold atM
      split
      · rfl
      · exact idxP_none fun j hj => decide_eq_false fun e => hinv j hj hj ⟨by omega, e.symm⟩
    rw [this]
    show _ = _
    kernel_rfl
/-- The live pages' numbers, of the first j pages from base on. -/
def lv (x : PageMap) (base : Int) (j : Nat) : List Int := (List.range j).filterMap fun (k : Nat) => if atM x (base + (k : Int)) < 0 then none else some (atM x (base + (k : Int)))
theorem lv_pos {x : PageMap} {base : Int} {j : Nat} (h : ¬ atM x (base + j) < 0) : lv x base (j + 1) = lv x base j ++ [atM x (base + j)] := by
  unfold lv
  rw [List.range_succ, List.filterMap_append]
  simp [h]
theorem lv_neg {x : PageMap} {base : Int} {j : Nat} (h : atM x (base + j) < 0) : lv x base (j + 1) = lv x base j := by
  unfold lv
  rw [List.range_succ, List.filterMap_append]
  simp [h]
theorem lv_len (x : PageMap) (base : Int) (j : Nat) : (lv x base j).length ≤ j := by
  unfold lv
  refine Nat.le_trans (List.length_filterMap_le ..) ?_
  simp
def lvIn (x : PageMap) (b : Int) : List Int := match inR b 0 (x.Blocks - 1) with
  | true => lv x (b * x.Pages) x.Pages.toNat
  | false => []
theorem ok_base {x : PageMap} (h : okMap x = true) : Base x := (pB_iff.mp h).1
theorem live_mul {x : PageMap} {b : Int} (hB : Base x) (hb : 0 ≤ b ∧ b ≤ x.Blocks - 1) : 0 ≤ b * x.Pages ∧ b * x.Pages + x.Pages ≤ 640 ∧ (b + 1) * x.Pages = b * x.Pages + x.Pages := by
  have h1 : (b + 1) * x.Pages ≤ x.Blocks * x.Pages := Int.mul_le_mul_of_nonneg_right (by omega) (by have := hB.2.1; omega)
  have h2 : (b + 1) * x.Pages = b * x.Pages + x.Pages := by rw [Int.add_mul, Int.one_mul]
  have h3 : 0 ≤ b * x.Pages := Int.mul_nonneg (by omega) (by have := hB.2.1; omega)
  have := hB.2.1
  omega

def h_sLive (x : PageMap) (b p : Int) : List V := ([(.rp [rPageMap x] 0 0), IN b, .dead, .dead, .dead, .sl 0, IN p] ++ List.replicate 38 .dead : List V)
abbrev FL (x : PageMap) (l : List Int) : Fo := [some (.arr 2 1 (l.map rI))]
theorem f_sLiveR (x : PageMap) (b : Int) (hk : okMap x = true) : callL E 129 [.rp [rPageMap x] 0 0, IN b] [] = some (.sl 0, [some (.arr 2 1 ((lvIn x b).map rI))]) := by
  have hB := ok_base hk
  have hM1 : x.Map.length ≤ 1048576 := by have := hB.1.2; omega
  have hB2 := hB.2.1
  unfold lvIn
  refine callW (fu := Try.f129) rfl rfl rfl (x.Pages.toNat + 1) ?_
  intro lp cl hlp hcl
  generalize hN : x.Pages.toNat + 1 = N
  conv => lhs; whnf
  rw [cl_eq hcl (f_l00In b 0 (IntKind.i64.wrap (x.Blocks - 1)))]
  rotate_left
  · show _ = _
    kernel_rfl
  · show _ = _
    kernel_rfl
  conv => lhs; whnf
  rw [wrap_sm (x.Blocks - 1) (by omega) (by omega)]
  cases g : inR b 0 (x.Blocks - 1)
  · show _ = _
    kernel_rfl
  · conv => lhs; whnf
    have hb := inR_iff.mp g
    have hm := live_mul hB hb
    have e1 : IntKind.i64.wrap (b * x.Pages) = b * x.Pages := wrap_sm _ (by omega) (by omega)
    have e2 : IntKind.i64.wrap (IntKind.i64.wrap (b + 1) * x.Pages) = b * x.Pages + x.Pages := by
      rw [wrap_sm (b + 1) (by omega) (by omega), hm.2.2, wrap_sm _ (by omega) (by omega)]
    rw [e1]
    try rw [hlp]
    refine loop_rule (fun d t F => ∃ i : Nat, t = h_sLive x b (b * x.Pages + i) ∧ F = FL x (lv x (b * x.Pages) i) ∧ d = x.Pages.toNat - i ∧ i ≤ x.Pages.toNat) ?_ N x.Pages.toNat _ _ (by omega) ⟨h_sLive x b (b * x.Pages), FL x [], fun k => by kernel_rfl, 0, by simp, rfl, by omega, by omega⟩
    rintro d t F ⟨i, rfl, rfl, rfl, hi⟩ next hnext
    conv => lhs; whnf
    rw [e2]
    split
    · rename_i h
      have hlt : i < x.Pages.toNat := by have := of_decide_eq_true h; omega
      have hn : IntKind.i64.wrap (b * x.Pages + (i : Int) + 1) = b * x.Pages + ((i + 1 : Nat) : Int) := by rw [wrap_sm _ (by omega) (by omega)]; omega
      have hll := lv_len x (b * x.Pages) i
      conv => lhs; whnf
      rw [cl_eq hcl (f_sAtR x (b * x.Pages + i) hM1)]
      rotate_left
      · show _ = _
        kernel_rfl
      · show _ = _
        kernel_rfl
      conv => lhs; whnf
      cases c : decide (atM x (b * x.Pages + i) ≥ 0)
      · have hc : atM x (b * x.Pages + i) < 0 := by have := of_decide_eq_false c; omega
        conv => lhs; whnf
        refine hnext (x.Pages.toNat - (i + 1)) _ _ (h_sLive x b (IntKind.i64.wrap (b * x.Pages + (i : Int) + 1))) (FL x (lv x (b * x.Pages) i)) (by omega) (fun k => by kernel_rfl) ⟨i + 1, by rw [hn], by rw [lv_neg hc], rfl, by omega⟩
      · have hc : ¬ atM x (b * x.Pages + i) < 0 := by have := of_decide_eq_true c; omega
        conv => lhs; whnf
        rw [appOk_of _ _ (by simp; omega)]
        conv => lhs; whnf
        refine hnext (x.Pages.toNat - (i + 1)) _ _ (h_sLive x b (IntKind.i64.wrap (b * x.Pages + (i : Int) + 1))) [some (.arr 2 1 ((lv x (b * x.Pages) i).map rI ++ [rI (atM x (b * x.Pages + i))]))] (by omega) (fun k => by kernel_rfl) ⟨i + 1, by rw [hn], by rw [lv_pos hc]; unfold FL; rw [List.map_append]; rfl, rfl, by omega⟩
    · rename_i h
      have hlt : i = x.Pages.toNat := by have := of_decide_eq_false h; omega
      subst hlt
      show _ = _
      kernel_rfl

abbrev bI (a : Int) : Option Root := some (.box [.d (dI a)])
def pW (lo up v : Int) : Bool := !inR v lo up
theorem f_awClo (lo up v : Int) : callL E 180 [IN v, .bp 0 0, .bp 1 0] [bI lo, bI up] = some (BO (pW lo up v), [bI lo, bI up]) := by
  refine callW (fu := Try.f180) rfl rfl rfl (1) ?_
  intro lp cl hlp hcl
  conv => lhs; whnf
  rw [cl_eq hcl (f_within v lo up)]
  rotate_left
  · show _ = _
    kernel_rfl
  · show _ = _
    kernel_rfl
  show _ = _
  kernel_rfl
def h_idxW (l : List Int) (i : Int) : List V := ([.d (.arr (l.map rI)), .clo 180 [.bp 0 0, .bp 1 0], .dead, .dead, .dead, .dead, .dead, IN (l.map rI).length, IN i] ++ List.replicate 10 .dead : List V)
theorem f_idxW (lo up : Int) (l : List Int) (hl : l.length ≤ 1048576) : callL E 164 [.d (.arr (l.map rI)), .clo 180 [.bp 0 0, .bp 1 0]] [bI lo, bI up] = some (IN (idxP (pW lo up) l), [bI lo, bI up]) := by
  refine callW (fu := Try.f164) rfl rfl rfl (l.length + 1) ?_
  intro lp cl hlp hcl
  generalize hN : l.length + 1 = N
  conv => lhs; whnf
  try rw [hlp]
  refine loop_rule (fun d t F => ∃ i : Nat, t = h_idxW l i ∧ F = [bI lo, bI up] ∧ d = l.length - i ∧ i ≤ l.length ∧ ∀ j (hj : j < i) (h2 : j < l.length), pW lo up l[j] = false) ?_ N (l.length) _ _ (by omega) ⟨h_idxW l 0, ([bI lo, bI up]), fun k => by kernel_rfl, 0, rfl, rfl, by omega, by omega, fun j hj => by omega⟩
  rintro d t F ⟨i, rfl, rfl, rfl, hi, hinv⟩ next hnext
  conv => lhs; whnf
  split
  · rename_i h
    have hlt : i < l.length := by have := of_decide_eq_true h; simp at this; omega
    have hg := get_map rI l i hlt
    conv => lhs; whnf
    repeat' (first
      | (rw [hg]; conv => lhs; whnf)
      | (rw [cl_eq hcl (f_awClo lo up l[i])]; rotate_left; exact rfl; exact rfl; conv => lhs; whnf)
      | (split <;> rename_i hh <;> (try rw [hh]) <;> conv => lhs; whnf))
    · rw [idxP_some hlt hh (fun j hj => hinv j hj (by omega))]
      show _ = _
      kernel_rfl
    · refine hnext (l.length - (i + 1)) _ _ (h_idxW l (IntKind.i64.wrap ((i : Int) + 1))) ([bI lo, bI up]) (by omega) (fun k => by kernel_rfl) ⟨i + 1, by rw [wrap_nat i (by omega)], rfl, rfl, by omega, fun j hj h3 => if e : j = i then by subst e; exact hh else hinv j (by omega) h3⟩
  · rename_i h
    have hlt : i = l.length := by have := of_decide_eq_false h; simp at this; omega
    subst hlt
    rw [idxP_none (fun j hj => hinv j hj hj)]
    show _ = _
    kernel_rfl
theorem f_cfW (lo up : Int) (l : List Int) (hl : l.length ≤ 1048576) : callL E 94 [.d (.arr (l.map rI)), .clo 180 [.bp 0 0, .bp 1 0]] [bI lo, bI up] = some (BO (l.any (pW lo up)), [bI lo, bI up]) := by
  refine callW (fu := Try.f94) rfl rfl rfl (1) ?_
  intro lp cl hlp hcl
  conv => lhs; whnf
  rw [cl_eq hcl (f_idxW lo up l hl)]
  rotate_left
  · show _ = _
    kernel_rfl
  · show _ = _
    kernel_rfl
  conv => lhs; whnf
  rw [← idxP_any]
  show _ = _
  kernel_rfl
theorem f_allW (l : List Int) (lo up : Int) (hl : l.length ≤ 1048576) : callL E 130 [.d (.arr (l.map rI)), IN lo, IN up] [] = some (BO (!(l.any (pW lo up))), []) := by
  refine callW (fu := Try.f130) rfl rfl rfl (1) ?_
  intro lp cl hlp hcl
  conv => lhs; whnf
  rw [cl_eq hcl (f_cfW lo up l hl)]
  rotate_left
  · show _ = _
    kernel_rfl
  · show _ = _
    kernel_rfl
  show _ = _
  kernel_rfl
def stA (x : PageMap) (ages : List Int) (us : List Bool) (n : Nat) : BlockStat := ⟨(((lvIn x n).map rI).length : Int), ages.getD n 0, us.getD n false⟩
def stN (x : PageMap) (ages : List Int) (us : List Bool) (n : Nat) : List BlockStat := (List.range n).map (stA x ages us)
theorem stN_succ (x : PageMap) (ages : List Int) (us : List Bool) (n : Nat) : stN x ages us (n + 1) = stN x ages us n ++ [stA x ages us n] := by
  unfold stN; rw [List.range_succ, List.map_append]; rfl
theorem stN_len (x : PageMap) (ages : List Int) (us : List Bool) (n : Nat) : (stN x ages us n).length = n := by simp [stN]
theorem litI (l : List Int) : litRows (l.map rI) = true := litRows_map (fun _ => rfl) l
theorem seI (e : Nat) (l : List Int) : scalEnd (.sl 0) [some (.arr e 1 (l.map rI))] = some (.d (.arr (l.map rI))) := by
  simp only [scalEnd, root, litI]
noncomputable def stOk (x : PageMap) (ages : List Int) (us : List Bool) : Bool := okMap x && (!((((ages.map rI).length : Nat) : Int) != x.Blocks) && (!((((us.map rB).length : Nat) : Int) != x.Blocks) && !(ages.any (pW 0 1000000))))
noncomputable def stR (x : PageMap) (ages : List Int) (us : List Bool) : List BlockStat × Int := match stOk x ages us with
  | true => (stN x ages us x.Blocks.toNat, 0)
  | false => ([], 1)
theorem stR_bad {x : PageMap} {ages : List Int} {us : List Bool} (h : stOk x ages us = false) : stR x ages us = ([], 1) := by unfold stR; rw [h]
theorem stR_good {x : PageMap} {ages : List Int} {us : List Bool} (h : stOk x ages us = true) : stR x ages us = (stN x ages us x.Blocks.toNat, 0) := by unfold stR; rw [h]
theorem any_no {l : List Int} {p : Int → Bool} (h : ∀ j (hj : j < l.length), p l[j] = false) : l.any p = false := List.any_eq_false.mpr fun a ha => by
  obtain ⟨j, hj, rfl⟩ := List.mem_iff_getElem.mp ha
  rw [h j hj]; decide
def h_sSt (ages : List Int) (us : List Bool) (b : Int) : List V := ([.dead, .d (.arr (ages.map rI)), .d (.arr (us.map rB)), .bp 0 0, .dead, .dead, .dead, .dead, .sl 1, IN b] ++ List.replicate 47 .dead : List V)
set_option maxHeartbeats 2000000 in
theorem f_sStats (x : PageMap) (ages : List Int) (us : List Bool) : callL E 46 [vPageMap x, .d (.arr (ages.map rI)), .d (.arr (us.map rB))] [] = some (.tup [.d (.arr ((stR x ages us).1.map rBlockStat)), IN (stR x ages us).2], []) := by
  refine callW (fu := Try.f46) rfl rfl rfl (x.Blocks.toNat + 1) ?_
  intro lp cl hlp hcl
  generalize hN : x.Blocks.toNat + 1 = N
  conv => lhs; whnf
  rw [cl_eq hcl (f_sMap x)]
  rotate_left
  · show _ = _
    kernel_rfl
  · show _ = _
    kernel_rfl
  conv => lhs; whnf
  cases g : okMap x
  · rw [stR_bad (by unfold stOk; rw [g]; rfl)]
    show _ = _
    kernel_rfl
  have hB := ok_base g
  have hB2 := hB.2.1
  conv => lhs; whnf
  cases c1 : ((((ages.map rI).length : Nat) : Int) != x.Blocks)
  rotate_left
  · rw [stR_bad (by unfold stOk; rw [g, c1]; rfl)]
    show _ = _
    kernel_rfl
  conv => lhs; whnf
  cases c2 : ((((us.map rB).length : Nat) : Int) != x.Blocks)
  rotate_left
  · rw [stR_bad (by unfold stOk; rw [g, c1, c2]; rfl)]
    show _ = _
    kernel_rfl
  have l1 : (ages.length : Int) = x.Blocks := by simpa using c1
  have l2 : (us.length : Int) = x.Blocks := by simpa using c2
  conv => lhs; whnf
  try rw [hlp]
  refine loop_rule (fun d t F => ∃ i : Nat, t = h_sSt ages us i ∧ F = bM x ++ [some (.arr 39 3 ((stN x ages us i).map rBlockStat))] ∧ d = x.Blocks.toNat - i ∧ i ≤ x.Blocks.toNat ∧ ∀ j (hj : j < i) (h2 : j < ages.length), pW 0 1000000 ages[j] = false) ?_ N (x.Blocks.toNat) _ _ (by omega) ⟨h_sSt ages us 0, (bM x ++ [some (.arr 39 3 ((stN x ages us 0).map rBlockStat))]), fun k => by kernel_rfl, 0, rfl, rfl, by omega, by omega, fun j hj => by omega⟩
  rintro d t F ⟨i, rfl, rfl, rfl, hi, hinv⟩ next hnext
  conv => lhs; whnf
  split
  · rename_i h
    have hlt : i < x.Blocks.toNat := by have := of_decide_eq_true h; omega
    have ha : i < ages.length := by omega
    have hu : i < us.length := by omega
    have hg := get_map rI ages i ha
    have hgu := get_map rB us i hu
    have hn : IntKind.i64.wrap ((i : Int) + 1) = ((i + 1 : Nat) : Int) := wrap_nat i (by omega)
    have hst : stA x ages us i = ⟨(((lvIn x i).map rI).length : Int), ages[i], us[i]⟩ := by simp [stA, List.getD_eq_getElem?_getD, ha, hu]
    have hln := stN_len x ages us i
    conv => lhs; whnf
    repeat' (first
      | (rw [hg]; conv => lhs; whnf)
      | (rw [cl_eq hcl (f_l00In ages[i] 0 1000000)]; rotate_left; exact rfl; exact rfl; conv => lhs; whnf))
    cases c3 : inR ages[i] 0 1000000
    · rw [stR_bad (by
        unfold stOk
        rw [g, c1, c2, List.any_eq_true.mpr ⟨ages[i], List.getElem_mem ha, by simp [pW, c3]⟩]
        rfl)]
      show _ = _
      kernel_rfl
    · conv => lhs; whnf
      repeat' (first
        | (rw [cl_eq hcl (f_sLiveR x i g)]; rotate_left; exact rfl; exact rfl; conv => lhs; whnf)
        | (rw [seI]; conv => lhs; whnf)
        | (rw [hg]; conv => lhs; whnf)
        | (rw [hgu]; conv => lhs; whnf))
      rw [appOk_of _ _ (by simp [hln]; omega)]
      conv => lhs; whnf
      refine hnext (x.Blocks.toNat - (i + 1)) _ _ (h_sSt ages us (IntKind.i64.wrap ((i : Int) + 1))) (bM x ++ [some (.arr 39 3 ((stN x ages us i).map rBlockStat ++ [rBlockStat ⟨(((lvIn x i).map rI).length : Int), ages[i], us[i]⟩]))]) (by omega) (fun k => by kernel_rfl) ⟨i + 1, by rw [hn], by rw [stN_succ, List.map_append, ← hst]; rfl, rfl, by omega, fun j hj h2 => if e : j = i then by subst e; simp [pW, c3] else hinv j (by omega) h2⟩
  · rename_i h
    have hlt : i = x.Blocks.toNat := by have := of_decide_eq_false h; omega
    subst hlt
    rw [stR_good (by unfold stOk; rw [g, c1, c2, any_no (fun j hj => hinv j (by omega) hj)]; rfl)]
    show _ = _
    kernel_rfl
def h_iLive (b p : Int) : List V := ([.dead, IN b, .bp 0 0, .dead, .dead, .sl 1, IN p] ++ List.replicate 24 .dead : List V)
abbrev FB (x : PageMap) (l : List Int) : Fo := [some (.box (mapO .d (rPageMap x))), some (.arr 2 1 (l.map rI))]
theorem f_iLiv (x : PageMap) (b : Int) (hk : okMap x = true) (g : inR b 0 (x.Blocks - 1) = true) : callL E 126 [vPageMap x, IN b] [] = some (.sl 0, [some (.arr 2 1 ((lv x (b * x.Pages) x.Pages.toNat).map rI))]) := by
  have hB := ok_base hk
  have hM1 : x.Map.length ≤ 1048576 := by have := hB.1.2; omega
  have hB2 := hB.2.1
  have hb := inR_iff.mp g
  have hm := live_mul hB hb
  have e1 : IntKind.i64.wrap (b * x.Pages) = b * x.Pages := wrap_sm _ (by omega) (by omega)
  have e2 : IntKind.i64.wrap (IntKind.i64.wrap (b + 1) * x.Pages) = b * x.Pages + x.Pages := by
    rw [wrap_sm (b + 1) (by omega) (by omega), hm.2.2, wrap_sm _ (by omega) (by omega)]
  refine callW (fu := Try.f126) rfl rfl rfl (x.Pages.toNat + 1) ?_
  intro lp cl hlp hcl
  generalize hN : x.Pages.toNat + 1 = N
  conv => lhs; whnf
  rw [e1]
  try rw [hlp]
  refine loop_rule (fun d t F => ∃ i : Nat, t = h_iLive b (b * x.Pages + i) ∧ F = FB x (lv x (b * x.Pages) i) ∧ d = x.Pages.toNat - i ∧ i ≤ x.Pages.toNat) ?_ N x.Pages.toNat _ _ (by omega) ⟨h_iLive b (b * x.Pages), FB x [], fun k => by kernel_rfl, 0, by simp, rfl, by omega, by omega⟩
  rintro d t F ⟨i, rfl, rfl, rfl, hi⟩ next hnext
  conv => lhs; whnf
  rw [e2]
  split
  · rename_i h
    have hlt : i < x.Pages.toNat := by have := of_decide_eq_true h; omega
    have hn : IntKind.i64.wrap (b * x.Pages + (i : Int) + 1) = b * x.Pages + ((i + 1 : Nat) : Int) := by rw [wrap_sm _ (by omega) (by omega)]; omega
    have hll := lv_len x (b * x.Pages) i
    conv => lhs; whnf
    rw [cl_eq hcl (f_iAt x (b * x.Pages + i) hM1)]
    rotate_left
    · show _ = _
      kernel_rfl
    · show _ = _
      kernel_rfl
    conv => lhs; whnf
    cases c : decide (atM x (b * x.Pages + i) ≥ 0)
    · have hc : atM x (b * x.Pages + i) < 0 := by have := of_decide_eq_false c; omega
      conv => lhs; whnf
      refine hnext (x.Pages.toNat - (i + 1)) _ _ (h_iLive b (IntKind.i64.wrap (b * x.Pages + (i : Int) + 1))) (FB x (lv x (b * x.Pages) i)) (by omega) (fun k => by kernel_rfl) ⟨i + 1, by rw [hn], by rw [lv_neg hc], rfl, by omega⟩
    · have hc : ¬ atM x (b * x.Pages + i) < 0 := by have := of_decide_eq_true c; omega
      conv => lhs; whnf
      rw [appOk_of _ _ (by simp; omega)]
      conv => lhs; whnf
      refine hnext (x.Pages.toNat - (i + 1)) _ _ (h_iLive b (IntKind.i64.wrap (b * x.Pages + (i : Int) + 1))) [some (.box (mapO .d (rPageMap x))), some (.arr 2 1 ((lv x (b * x.Pages) i).map rI ++ [rI (atM x (b * x.Pages + i))]))] (by omega) (fun k => by kernel_rfl) ⟨i + 1, by rw [hn], by rw [lv_pos hc]; unfold FB; rw [List.map_append]; rfl, rfl, by omega⟩
  · rename_i h
    have hlt : i = x.Pages.toNat := by have := of_decide_eq_false h; omega
    subst hlt
    show _ = _
    kernel_rfl
abbrev FS (x : PageMap) (ages : List Int) (us : List Bool) : Fo := FPageMap x ++ [some (.arr 2 1 (ages.map rI)), some (.arr 4 1 (us.map rB))]
def h_iSt (x : PageMap) (b : Int) : List V := ([.dead, .sl 2, .sl 3, .bp 4 0, .dead, .dead, .dead, .dead, .sl 5, .dead, .dead, .dead, .dead, .dead, .dead, .dead, .dead, .dead, .dead, .dead, .dead, .dead, .dead, .dead, .dead, .dead, .dead, .dead, .dead, .dead, .dead, .dead, .dead, IN x.Blocks, IN b] ++ List.replicate 20 .dead : List V)
set_option maxHeartbeats 2000000 in
theorem f_iStats (x : PageMap) (ages : List Int) (us : List Bool) (hla : ages.length ≤ 1048576) : callL E 50 [oPageMap x, .sl 2, .sl 3] (FS x ages us) = some (.tup [.sl 4, IN (stR x ages us).2], FS x ages us ++ [some (.arr 39 3 ((stR x ages us).1.map rBlockStat))]) := by
  refine callW (fu := Try.f50) rfl rfl rfl (x.Blocks.toNat + 1) ?_
  intro lp cl hlp hcl
  generalize hN : x.Blocks.toNat + 1 = N
  conv => lhs; whnf
  rw [cl_eq hcl (f_iMap x)]
  rotate_left
  · show _ = _
    kernel_rfl
  · show _ = _
    kernel_rfl
  conv => lhs; whnf
  cases g : okMap x
  · rw [stR_bad (by unfold stOk; rw [g]; rfl)]
    show _ = _
    kernel_rfl
  have hB := ok_base g
  have hB2 := hB.2.1
  conv => lhs; whnf
  cases c1 : ((((ages.map rI).length : Nat) : Int) != x.Blocks)
  rotate_left
  · rw [stR_bad (by unfold stOk; rw [g, c1]; rfl)]
    show _ = _
    kernel_rfl
  conv => lhs; whnf
  cases c2 : ((((us.map rB).length : Nat) : Int) != x.Blocks)
  rotate_left
  · rw [stR_bad (by unfold stOk; rw [g, c1, c2]; rfl)]
    show _ = _
    kernel_rfl
  have l1 : (ages.length : Int) = x.Blocks := by simpa using c1
  have l2 : (us.length : Int) = x.Blocks := by simpa using c2
  conv => lhs; whnf
  rw [cl_eq hcl (f_allW ages 0 1000000 hla)]
  rotate_left
  · show _ = _
    kernel_rfl
  · show _ = _
    kernel_rfl
  conv => lhs; whnf
  cases c3 : ages.any (pW 0 1000000)
  rotate_left
  · rw [stR_bad (by unfold stOk; rw [g, c1, c2, c3]; rfl)]
    show _ = _
    kernel_rfl
  rw [stR_good (by unfold stOk; rw [g, c1, c2, c3]; rfl)]
  conv => lhs; whnf
  try rw [hlp]
  refine loop_rule (fun d t F => ∃ i : Nat, t = h_iSt x i ∧ F = FS x ages us ++ [some (.box [.d (dI x.Blocks), .d (dI x.Pages), .sl 0, .sl 1]), some (.arr 39 3 ((stN x ages us i).map rBlockStat))] ∧ d = x.Blocks.toNat - i ∧ i ≤ x.Blocks.toNat ∧ True) ?_ N (x.Blocks.toNat) _ _ (by omega) ⟨h_iSt x 0, (FS x ages us ++ [some (.box [.d (dI x.Blocks), .d (dI x.Pages), .sl 0, .sl 1]), some (.arr 39 3 ((stN x ages us 0).map rBlockStat))]), fun k => by kernel_rfl, 0, rfl, rfl, by omega, by omega, trivial⟩
  rintro d t F ⟨i, rfl, rfl, rfl, hi, hinv⟩ next hnext
  conv => lhs; whnf
  split
  · rename_i h
    have hlt : i < x.Blocks.toNat := by have := of_decide_eq_true h; omega
    have ha : i < ages.length := by omega
    have hu : i < us.length := by omega
    have hg := get_map rI ages i ha
    have hgu := get_map rB us i hu
    have hn : IntKind.i64.wrap ((i : Int) + 1) = ((i + 1 : Nat) : Int) := wrap_nat i (by omega)
    have hir : inR (i : Int) 0 (x.Blocks - 1) = true := inR_iff.mpr ⟨by omega, by omega⟩
    have hlv : lvIn x i = lv x ((i : Int) * x.Pages) x.Pages.toNat := by unfold lvIn; rw [hir]
    have hst : stA x ages us i = ⟨(((lvIn x i).map rI).length : Int), ages[i], us[i]⟩ := by simp [stA, List.getD_eq_getElem?_getD, ha, hu]
    have hln := stN_len x ages us i
    rw [hlv] at hst
    conv => lhs; whnf
    repeat' (first
      | (rw [cl_eq hcl (f_iLiv x i g hir)]; rotate_left; exact rfl; exact rfl; conv => lhs; whnf)
      | (rw [seI]; conv => lhs; whnf)
      | (rw [hg]; conv => lhs; whnf)
      | (rw [hgu]; conv => lhs; whnf))
    rw [appOk_of _ _ (by simp [hln]; omega)]
    conv => lhs; whnf
    refine hnext (x.Blocks.toNat - (i + 1)) _ _ (h_iSt x (IntKind.i64.wrap ((i : Int) + 1))) (FS x ages us ++ [some (.box [.d (dI x.Blocks), .d (dI x.Pages), .sl 0, .sl 1]), some (.arr 39 3 ((stN x ages us i).map rBlockStat ++ [rBlockStat ⟨(((lv x ((i : Int) * x.Pages) x.Pages.toNat).map rI).length : Int), ages[i], us[i]⟩]))]) (by omega) (fun k => by kernel_rfl) ⟨i + 1, by rw [hn], by rw [stN_succ, List.map_append, ← hst]; rfl, rfl, by omega, trivial⟩
  · rename_i h
    have hlt : i = x.Blocks.toNat := by have := of_decide_eq_false h; omega
    subst hlt
    show _ = _
    kernel_rfl

theorem f_markPageMap (x : PageMap) (hl : totPageMap x ≤ 1048576) : callL E 55 [oPageMap x, IN 1] (FPageMap x) = some (IN (1 + 1 * (x.Map.length : Int) + 1 * (x.Trimmed.length : Int)), [some (.arr 2 1 ((mksInt 1 x.Map.length).map rI)), some (.arr 4 1 ((mksBool (1 + 1 * (x.Map.length : Int)) x.Trimmed.length).map rB))]) := by
  have ht : totPageMap x = x.Map.length + x.Trimmed.length := rfl
  refine callW (fu := Try.f55) rfl rfl rfl (1) ?_
  intro lp cl hlp hcl
  conv => lhs; whnf
  rw [cl_eq hcl (f_markInt64S x.Map 1 (by omega) (by omega) (by omega))]
  rotate_left
  · show _ = _
    kernel_rfl
  · show _ = _
    kernel_rfl
  conv => lhs; whnf
  rw [cl_eq hcl (f_markBoolS x.Trimmed (1 + 1 * (x.Map.length : Int)) (by omega) (by omega) (by omega))]
  rotate_left
  · show _ = _
    kernel_rfl
  · show _ = _
    kernel_rfl
  show _ = _
  kernel_rfl
theorem stR_len (x : PageMap) (ages : List Int) (us : List Bool) : (stR x ages us).1.length ≤ 640 := by
  unfold stR
  split
  · rename_i h
    unfold stOk at h
    simp only [Bool.and_eq_true] at h
    have := (ok_base h.1).2.1
    rw [stN_len]; omega
  · simp
set_option maxHeartbeats 8000000 in
theorem f_law (x : PageMap) (ages : List Int) (us : List Bool) (hk : okPageMap x) (hk1 : okL i64r ages) (hk2 : okL okB us) : callL E 7 [vPageMap x, .d (.arr (ages.map rI)), .d (.arr (us.map rB))] [] = some (BO true, []) := by
  have ht : totPageMap x = x.Map.length + x.Trimmed.length := rfl
  have hn := stR_len x ages us
  refine callW (fu := Try.f7) rfl rfl rfl (1) ?_
  intro lp cl hlp hcl
  conv => lhs; whnf
  cases p1 : decide (((ages.map rI).length : Int) > 1048576)
  rotate_left
  · show _ = _
    kernel_rfl
  conv => lhs; whnf
  cases p2 : decide (((us.map rB).length : Int) > 1048576)
  rotate_left
  · show _ = _
    kernel_rfl
  have hla : ages.length ≤ 1048576 := by have := of_decide_eq_false p1; rw [List.length_map] at this; omega
  have hlu : us.length ≤ 1048576 := by have := of_decide_eq_false p2; rw [List.length_map] at this; omega
  conv => lhs; whnf
  rw [cl_eq hcl (f_szPageMap x hk 1048576 (by omega) (by omega))]
  rotate_left
  · show _ = _
    kernel_rfl
  · show _ = _
    kernel_rfl
  conv => lhs; whnf
  by_cases q : ((totPageMap x : Nat) : Int) ≤ 1048576
  rotate_left
  · rw [szr_neg q]
    show _ = _
    kernel_rfl
  rw [szr_pos q]
  conv => lhs; whnf
  rw [decide_eq_false (show ¬ (1048576 - ((totPageMap x : Nat) : Int) < 0) by omega)]
  conv => lhs; whnf
  have hd : decide (1 + 1 * (x.Map.length : Int) + 1 * (x.Trimmed.length : Int) + 1 * (ages.length : Int) + 1 * (us.length : Int) < 0) = false := decide_eq_false (by omega)
  have hd2 : decide (1 + 3 * ((stR x ages us).1.length : Int) < 0) = false := decide_eq_false (by omega)
  rw [cl_eq hcl (f_toPageMap x (by omega))]
  rotate_left
  · show _ = _
    kernel_rfl
  · show _ = _
    kernel_rfl
  conv => lhs; whnf
  rw [cl_eq hcl (f_toInt64S ages (by omega))]
  rotate_left
  · show _ = _
    kernel_rfl
  · show _ = _
    kernel_rfl
  conv => lhs; whnf
  rw [cl_eq hcl (f_toBoolS us (by omega))]
  rotate_left
  · show _ = _
    kernel_rfl
  · show _ = _
    kernel_rfl
  conv => lhs; whnf
  rw [cl_eq hcl (f_sStats x ages us)]
  rotate_left
  · show _ = _
    kernel_rfl
  · show _ = _
    kernel_rfl
  conv => lhs; whnf
  rw [cl_eq hcl (f_toPageMap x (by omega))]
  rotate_left
  · show _ = _
    kernel_rfl
  · show _ = _
    kernel_rfl
  conv => lhs; whnf
  rw [cl_eq hcl (f_toInt64S ages (by omega))]
  rotate_left
  · show _ = _
    kernel_rfl
  · show _ = _
    kernel_rfl
  conv => lhs; whnf
  rw [cl_eq hcl (f_toBoolS us (by omega))]
  rotate_left
  · show _ = _
    kernel_rfl
  · show _ = _
    kernel_rfl
  conv => lhs; whnf
  rw [cl_eq hcl (f_iStats x ages us (by omega))]
  rotate_left
  · show _ = _
    kernel_rfl
  · show _ = _
    kernel_rfl
  conv => lhs; whnf
  repeat' (first
    | (rw [cl_eq hcl (f_eqBlockStatS (stR x ages us).1 (by omega))]; rotate_left; exact rfl; exact rfl; conv => lhs; whnf)
    | (rw [bne_self_eq_false]; conv => lhs; whnf)
    | (rw [not_beq_self]; conv => lhs; whnf)
    | (rw [beq_self_eq_true]; conv => lhs; whnf))
  rw [cl_eq hcl (f_toPageMap x (by omega))]
  rotate_left
  · show _ = _
    kernel_rfl
  · show _ = _
    kernel_rfl
  conv => lhs; whnf
  rw [cl_eq hcl (f_eqPageMap x (by omega))]
  rotate_left
  · show _ = _
    kernel_rfl
  · show _ = _
    kernel_rfl
  conv => lhs; whnf
  rw [cl_eq hcl (f_toInt64S ages (by omega))]
  rotate_left
  · show _ = _
    kernel_rfl
  · show _ = _
    kernel_rfl
  conv => lhs; whnf
  rw [cl_eq hcl (f_eqInt64S ages (by omega))]
  rotate_left
  · show _ = _
    kernel_rfl
  · show _ = _
    kernel_rfl
  conv => lhs; whnf
  rw [cl_eq hcl (f_toBoolS us (by omega))]
  rotate_left
  · show _ = _
    kernel_rfl
  · show _ = _
    kernel_rfl
  conv => lhs; whnf
  rw [cl_eq hcl (f_eqBoolS us (by omega))]
  rotate_left
  · show _ = _
    kernel_rfl
  · show _ = _
    kernel_rfl
  conv => lhs; whnf
  rw [cl_eq hcl (f_markPageMap x (by omega))]
  rotate_left
  · show _ = _
    kernel_rfl
  · show _ = _
    kernel_rfl
  conv => lhs; whnf
  rw [cl_eq hcl (f_markInt64S ages (1 + 1 * (x.Map.length : Int) + 1 * (x.Trimmed.length : Int)) (by omega) (by omega) (by omega))]
  rotate_left
  · show _ = _
    kernel_rfl
  · show _ = _
    kernel_rfl
  conv => lhs; whnf
  rw [cl_eq hcl (f_markBoolS us (1 + 1 * (x.Map.length : Int) + 1 * (x.Trimmed.length : Int) + 1 * (ages.length : Int)) (by omega) (by omega) (by omega))]
  rotate_left
  · show _ = _
    kernel_rfl
  · show _ = _
    kernel_rfl
  conv => lhs; whnf
  rw [hd]
  conv => lhs; whnf
  repeat' (first
    | (rw [cl_eq hcl (f_eqBlockStatS (stR x ages us).1 (by omega))]; rotate_left; exact rfl; exact rfl; conv => lhs; whnf)
    | (rw [bne_self_eq_false]; conv => lhs; whnf)
    | (rw [not_beq_self]; conv => lhs; whnf)
    | (rw [beq_self_eq_true]; conv => lhs; whnf))
  rw [cl_eq hcl (f_markBlockStatS (stR x ages us).1 1 (by omega) (by omega) (by omega))]
  rotate_left
  · show _ = _
    kernel_rfl
  · show _ = _
    kernel_rfl
  conv => lhs; whnf
  rw [cl_eq hcl (f_heldBlockStatS (stR x ages us).1.length 1 (by omega) (by omega) (by omega))]
  rotate_left
  · show _ = _
    kernel_rfl
  · show _ = _
    kernel_rfl
  conv => lhs; whnf
  rw [hd2]
  conv => lhs; whnf
  rw [bne_self_eq_false]
  conv => lhs; whnf
  rw [cl_eq hcl (f_toPageMap x (by omega))]
  rotate_left
  · show _ = _
    kernel_rfl
  · show _ = _
    kernel_rfl
  conv => lhs; whnf
  rw [cl_eq hcl (f_toInt64S ages (by omega))]
  rotate_left
  · show _ = _
    kernel_rfl
  · show _ = _
    kernel_rfl
  conv => lhs; whnf
  rw [cl_eq hcl (f_toBoolS us (by omega))]
  rotate_left
  · show _ = _
    kernel_rfl
  · show _ = _
    kernel_rfl
  conv => lhs; whnf
  rw [cl_eq hcl (f_iStats x ages us (by omega))]
  rotate_left
  · show _ = _
    kernel_rfl
  · show _ = _
    kernel_rfl
  conv => lhs; whnf
  repeat' (first
    | (rw [cl_eq hcl (f_eqBlockStatS (stR x ages us).1 (by omega))]; rotate_left; exact rfl; exact rfl; conv => lhs; whnf)
    | (rw [bne_self_eq_false]; conv => lhs; whnf)
    | (rw [not_beq_self]; conv => lhs; whnf)
    | (rw [beq_self_eq_true]; conv => lhs; whnf))
  rw [cl_eq hcl (f_heldBlockStatS (stR x ages us).1.length 1 (by omega) (by omega) (by omega))]
  rotate_left
  · show _ = _
    kernel_rfl
  · show _ = _
    kernel_rfl
  conv => lhs; whnf
  rw [hd2]
  conv => lhs; whnf
  rw [bne_self_eq_false]
  show _ = _
  kernel_rfl

end Go.Proofs.Ytcdgobimidmacaa.T22

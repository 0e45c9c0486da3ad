/- FnExactValidDbAct: what its functions come to, and the row; conditions: none. -/
import Derived.Test.YtgcdkchdgeppdaaT07
import Derived.Test.YtgcdkchdgeppdaaEr
import Derived.Test.YtgcdkchdgeppdaaRows
import Derived.WalkKit
import Derived.ProofKit
import Derived.OpenShut
import Derived.ShutString
import Derived.ChangeOld
import Derived.Below
import Derived.SizedLaws
namespace Go.Proofs.Ytgcdkchdgeppdaa.T07
open Go.Proofs.YtgcdkchdgeppdaaE
set_option maxRecDepth 100000
set_option linter.unusedVariables false
set_option linter.unusedSimpArgs false

theorem f_szRecord (x : Record) (hk : okRecord x) (left : Int) (h0 : 0 ≤ left) (h1 : left ≤ 1048576) : callL E 147 [vRecord x, IN left] [] = some (IN (szr (totRecord x) left), []) := by
  have hT : totRecord x = ByteArray.size x.Key + ByteArray.size x.Value + ByteArray.size x.End := rfl
  have ⟨kKey, kSeq, kKind, kValue, kEnd⟩ := hk
  refine callW (fu := Try.f147) rfl rfl 1 ?_
  intro lp cl hlp hcl
  conv => lhs; whnf
  have hw0 : IntKind.i64.wrap (left - ((ByteArray.size x.Key : Nat) : Int)) = left - ((ByteArray.size x.Key : Nat) : Int) := by
    have := kKey; unfold okS at this; rw [IntKind.wrap_i64]; omega
  rw [hw0]
  by_cases q0 : ((ByteArray.size x.Key : Nat) : Int) ≤ left
  rotate_left
  · rw [decide_eq_true (show left - ((ByteArray.size x.Key : Nat) : Int) < 0 by omega)]
    rw [szr_neg (by omega)]
    show _ = _
    kernel_rfl
  rw [decide_eq_false (show ¬ (left - ((ByteArray.size x.Key : Nat) : Int) < 0) by omega)]
  conv => lhs; whnf
  have hw1 : IntKind.i64.wrap ((left - ((ByteArray.size x.Key : Nat) : Int)) - ((ByteArray.size x.Value : Nat) : Int)) = (left - ((ByteArray.size x.Key : Nat) : Int)) - ((ByteArray.size x.Value : Nat) : Int) := by
    have := kValue; unfold okS at this; rw [IntKind.wrap_i64]; omega
  rw [hw1]
  by_cases q1 : ((ByteArray.size x.Value : Nat) : Int) ≤ (left - ((ByteArray.size x.Key : Nat) : Int))
  rotate_left
  · rw [decide_eq_true (show (left - ((ByteArray.size x.Key : Nat) : Int)) - ((ByteArray.size x.Value : Nat) : Int) < 0 by omega)]
    rw [szr_neg (by omega)]
    show _ = _
    kernel_rfl
  rw [decide_eq_false (show ¬ ((left - ((ByteArray.size x.Key : Nat) : Int)) - ((ByteArray.size x.Value : Nat) : Int) < 0) by omega)]
  conv => lhs; whnf
  have hw2 : IntKind.i64.wrap (((left - ((ByteArray.size x.Key : Nat) : Int)) - ((ByteArray.size x.Value : Nat) : Int)) - ((ByteArray.size x.End : Nat) : Int)) = ((left - ((ByteArray.size x.Key : Nat) : Int)) - ((ByteArray.size x.Value : Nat) : Int)) - ((ByteArray.size x.End : Nat) : Int) := by
    have := kEnd; unfold okS at this; rw [IntKind.wrap_i64]; omega
  rw [hw2]
  by_cases q2 : ((ByteArray.size x.End : Nat) : Int) ≤ ((left - ((ByteArray.size x.Key : Nat) : Int)) - ((ByteArray.size x.Value : Nat) : Int))
  rotate_left
  · rw [decide_eq_true (show ((left - ((ByteArray.size x.Key : Nat) : Int)) - ((ByteArray.size x.Value : Nat) : Int)) - ((ByteArray.size x.End : Nat) : Int) < 0 by omega)]
    rw [szr_neg (by omega)]
    show _ = _
    kernel_rfl
  rw [decide_eq_false (show ¬ (((left - ((ByteArray.size x.Key : Nat) : Int)) - ((ByteArray.size x.Value : Nat) : Int)) - ((ByteArray.size x.End : Nat) : Int) < 0) by omega)]
  conv => lhs; whnf
  rw [szr_pos (show ((totRecord x : Nat) : Int) ≤ left by omega), show left - ((totRecord x : Nat) : Int) = (((left - ((ByteArray.size x.Key : Nat) : Int)) - ((ByteArray.size x.Value : Nat) : Int)) - ((ByteArray.size x.End : Nat) : Int)) by omega]
  show _ = _
  kernel_rfl

def h_szRecordS (l : List Record) (c n : Int) : List V := ([.d (.arr (l.map rRecord)), IN c, .dead, .dead, .dead, IN n] ++ List.replicate 21 .dead : List V)
theorem f_szRecordS (l : List Record) (hk : okL okRecord l) (left : Int) (h0 : 0 ≤ left) (h1 : left ≤ 1048576) : callL E 103 [.d (.arr (l.map rRecord)), IN left] [] = some (IN (szr ((totL totRecord) l) left), []) := by
  have hl := hk.1
  refine callW (fu := Try.f103) rfl rfl (l.length + 1) ?_
  intro lp cl hlp hcl
  generalize hN : l.length + 1 = N
  conv => lhs; whnf
  have hw : IntKind.i64.wrap (left - ((l.map rRecord).length : Int)) = left - (l.length : Int) := by rw [IntKind.wrap_i64, List.length_map]; omega
  rw [hw]
  by_cases q : (l.length : Int) ≤ left
  rotate_left
  · rw [decide_eq_true (show left - (l.length : Int) < 0 by omega), szr_neg (by unfold totL; omega)]
    show _ = _
    kernel_rfl
  rw [decide_eq_false (show ¬ (left - (l.length : Int) < 0) by omega)]
  conv => lhs; whnf
  rw [hlp]
  refine loop_rule (fun d t F => ∃ i : Nat, t = h_szRecordS l (left - (l.length : Int) - (((l.take i).map totRecord).sum : Nat)) i ∧ F = [] ∧ d = l.length - i ∧ i ≤ l.length ∧ ((((l.take i).map totRecord).sum : Nat) : Int) ≤ left - l.length) ?_ N l.length _ _ (by omega) ⟨h_szRecordS l (left - (l.length : Int)) 0, [], fun k => by kernel_rfl, 0, by simp, rfl, by omega, by omega, by simpa using (show (l.length : Int) ≤ left from q)⟩
  rintro d t F ⟨i, rfl, rfl, rfl, hi, hs⟩ next hnext
  have hq := sum_take_le totRecord l i
  generalize hS : (((l.take i).map totRecord).sum : Nat) = S at *
  conv => lhs; whnf
  split
  · rename_i h
    have hlt : i < l.length := by have := of_decide_eq_true h; simp at this; omega
    have hg := get_map rRecord l i hlt
    have hn := sum_take_succ totRecord l i hlt
    have hq1 := sum_take_le totRecord l (i + 1)
    rw [hS] at hn
    conv => lhs; whnf
    repeat (rw [hg]; conv => lhs; whnf)
    rw [cl_eq hcl (f_szRecord l[i] (hk.2 _ (List.getElem_mem _)) (left - l.length - S) (by omega) (by omega))]
    rotate_left
    · show _ = _
      kernel_rfl
    · show _ = _
      kernel_rfl
    by_cases q2 : ((totRecord l[i] : Nat) : Int) ≤ left - l.length - S
    rotate_left
    · rw [szr_neg q2, szr_neg (by unfold totL; omega)]
      show _ = _
      kernel_rfl
    rw [szr_pos q2]
    conv => lhs; whnf
    rw [decide_eq_false (show ¬ ((left - (l.length : Int) - (S : Int) - ((totRecord l[i] : Nat) : Int)) < 0) by omega)]
    conv => lhs; whnf
    refine hnext (l.length - (i + 1)) _ _ (h_szRecordS l (left - (l.length : Int) - (S : Int) - ((totRecord l[i] : Nat) : Int)) (IntKind.i64.wrap ((i : Int) + 1))) [] (by omega) (fun k => by kernel_rfl) ⟨i + 1, by rw [wrap_nat i (by omega), show left - (l.length : Int) - ((((l.take (i + 1)).map totRecord).sum : Nat) : Int) = (left - (l.length : Int) - (S : Int) - ((totRecord l[i] : Nat) : Int)) by omega], rfl, rfl, by omega, by omega⟩
  · rename_i h
    have hlt : i = l.length := by have := of_decide_eq_false h; simp at this; omega
    subst hlt
    rw [List.take_length] at hS
    rw [szr_pos (by unfold totL; omega), show left - ((totL totRecord l : Nat) : Int) = left - (l.length : Int) - (S : Int) by unfold totL; omega]
    show _ = _
    kernel_rfl

theorem f_szDbAct (x : DbAct) (hk : okDbAct x) (left : Int) (h0 : 0 ≤ left) (h1 : left ≤ 1048576) : callL E 39 [vDbAct x, IN left] [] = some (IN (szr (totDbAct x) left), []) := by
  have hT : totDbAct x = (totL totRecord) x.Batch := rfl
  have ⟨kKind, kBatch, kSeq⟩ := hk
  refine callW (fu := Try.f39) rfl rfl 1 ?_
  intro lp cl hlp hcl
  conv => lhs; whnf
  rw [cl_eq hcl (f_szRecordS x.Batch kBatch (left) (by omega) (by omega))]
  rotate_left
  · show _ = _
    kernel_rfl
  · show _ = _
    kernel_rfl
  by_cases q0 : (((totL totRecord) x.Batch : Nat) : Int) ≤ left
  rotate_left
  · rw [szr_neg q0, szr_neg (by omega)]
    show _ = _
    kernel_rfl
  rw [szr_pos q0]
  conv => lhs; whnf
  rw [decide_eq_false (show ¬ (left - (((totL totRecord) x.Batch : Nat) : Int) < 0) by omega)]
  conv => lhs; whnf
  rw [szr_pos (show ((totDbAct x : Nat) : Int) ≤ left by omega), show left - ((totDbAct x : Nat) : Int) = (left - (((totL totRecord) x.Batch : Nat) : Int)) by omega]
  show _ = _
  kernel_rfl

theorem f_toRecord (x : Record) (ht : totRecord x ≤ 1048576) : callL E 148 [vRecord x] [] = some (vRecord x, []) := by
  have hT : totRecord x = ByteArray.size x.Key + ByteArray.size x.Value + ByteArray.size x.End := rfl
  refine callW (fu := Try.f148) rfl rfl 1 ?_
  intro lp cl hlp hcl
  show _ = _
  kernel_rfl

def h_toRecordS (l : List Record) (n : Int) : List V := ([.d (.arr (l.map rRecord)), .dead, .dead, .sl 0, IN n] ++ List.replicate 18 .dead : List V)
def z_toRecordS : List D := [.lit (.string ⟨#[]⟩), .lit (.int .i64 0), .lit (.int .i64 0), .lit (.string ⟨#[]⟩), .lit (.string ⟨#[]⟩)]
theorem f_toRecordS (l : List Record) (ht : (totL totRecord) l ≤ 1048576) : callL E 104 [.d (.arr (l.map rRecord))] [] = some (.d (.arr (l.map rRecord)), []) := by
  have hl : l.length ≤ 1048576 := by unfold totL at ht; omega
  refine callW (fu := Try.f104) rfl rfl (l.length + 1) ?_
  intro lp cl hlp hcl
  generalize hN : l.length + 1 = N
  conv => lhs; whnf
  rw [mkOk_nat (l.map rRecord).length 64 5 (by simp; omega) rfl rfl]
  conv => lhs; whnf
  rw [hlp]
  refine loop_rule (fun d t F => ∃ i : Nat, t = h_toRecordS l i ∧ F = [some (.arr 70 5 ((l.take i).map rRecord ++ List.replicate (l.length - i) z_toRecordS))] ∧ d = l.length - i ∧ i ≤ l.length) ?_ N l.length _ _ (by omega) ⟨h_toRecordS l 0, [some (.arr 70 5 (List.replicate (l.map rRecord).length z_toRecordS))], fun k => by kernel_rfl, 0, rfl, by simp, by omega, by omega⟩
  rintro d t F ⟨i, rfl, rfl, rfl, hi⟩ next hnext
  conv => lhs; whnf
  split
  · rename_i h
    have hlt : i < l.length := by have := of_decide_eq_true h; simp at this; omega
    have hg := get_map rRecord l i hlt
    conv => lhs; whnf
    repeat (rw [hg]; conv => lhs; whnf)
    rw [cl_eq hcl (f_toRecord l[i] (Nat.le_trans (tot_get totRecord l i hlt) ht))]
    rotate_left
    · show _ = _
      kernel_rfl
    · show _ = _
      kernel_rfl
    conv => lhs; whnf
    have hq := get_row rRecord l z_toRecordS i hlt
    repeat (rw [hq]; conv => lhs; whnf)
    refine hnext (l.length - (i + 1)) _ _ (h_toRecordS l (IntKind.i64.wrap ((i : Int) + 1))) [some (.arr 70 5 (((l.take i).map rRecord ++ List.replicate (l.length - i) z_toRecordS).set ((i : Nat) : Int).toNat (rRecord l[i])))] (by omega) (fun k => by kernel_rfl) ⟨i + 1, by rw [wrap_nat i (by omega)], by rw [take_row rRecord l z_toRecordS i hlt], rfl, by omega⟩
  · rename_i h
    have hlt : i = l.length := by have := of_decide_eq_false h; simp at this; omega
    conv => lhs; whnf
    subst hlt
    rw [List.take_length, Nat.sub_self, List.replicate_zero, List.append_nil]
    show _ = _
    kernel_rfl

theorem f_toDbAct (x : DbAct) (ht : totDbAct x ≤ 1048576) : callL E 41 [vDbAct x] [] = some (vDbAct x, []) := by
  have hT : totDbAct x = (totL totRecord) x.Batch := rfl
  refine callW (fu := Try.f41) rfl rfl 1 ?_
  intro lp cl hlp hcl
  conv => lhs; whnf
  rw [cl_eq hcl (f_toRecordS x.Batch (by omega))]
  rotate_left
  · show _ = _
    kernel_rfl
  · show _ = _
    kernel_rfl
  show _ = _
  kernel_rfl

theorem f_eqRecord (x : Record) (ht : totRecord x ≤ 1048576) : callL E 149 [vRecord x, vRecord x] [] = some (BO true, []) := by
  have hT : totRecord x = ByteArray.size x.Key + ByteArray.size x.Value + ByteArray.size x.End := rfl
  refine callW (fu := Try.f149) rfl rfl 1 ?_
  intro lp cl hlp hcl
  conv => lhs; whnf
  first | rw [bne_self_eq_false] | rw [not_beq_self] | rw [beq_self_eq_true]
  conv => lhs; whnf
  first | rw [bne_self_eq_false] | rw [not_beq_self] | rw [beq_self_eq_true]
  conv => lhs; whnf
  first | rw [bne_self_eq_false] | rw [not_beq_self] | rw [beq_self_eq_true]
  conv => lhs; whnf
  first | rw [bne_self_eq_false] | rw [not_beq_self] | rw [beq_self_eq_true]
  conv => lhs; whnf
  first | rw [bne_self_eq_false] | rw [not_beq_self] | rw [beq_self_eq_true]
  show _ = _
  kernel_rfl

def h_eqRecordS (l : List Record) (n : Int) : List V := ([.d (.arr (l.map rRecord)), .d (.arr (l.map rRecord)), .dead, .dead, .dead, IN n] ++ List.replicate 21 .dead : List V)
theorem f_eqRecordS (l : List Record) (ht : (totL totRecord) l ≤ 1048576) : callL E 105 [.d (.arr (l.map rRecord)), .d (.arr (l.map rRecord))] [] = some (BO true, []) := by
  have hl : l.length ≤ 1048576 := by unfold totL at ht; omega
  refine callW (fu := Try.f105) rfl rfl (l.length + 1) ?_
  intro lp cl hlp hcl
  generalize hN : l.length + 1 = N
  conv => lhs; whnf
  first | rw [bne_self_eq_false] | rw [not_beq_self] | rw [beq_self_eq_true]
  conv => lhs; whnf
  rw [hlp]
  refine loop_rule (fun d t F => ∃ i : Nat, t = h_eqRecordS l i ∧ F = [] ∧ d = l.length - i ∧ i ≤ l.length) ?_ N l.length _ _ (by omega) ⟨h_eqRecordS l 0, [], fun k => by kernel_rfl, 0, rfl, rfl, by omega, by omega⟩
  rintro d t F ⟨i, rfl, rfl, rfl, hi⟩ next hnext
  conv => lhs; whnf
  split
  · rename_i h
    have hlt : i < l.length := by have := of_decide_eq_true h; simp at this; omega
    have hg := get_map rRecord l i hlt
    conv => lhs; whnf
    repeat (rw [hg]; conv => lhs; whnf)
    rw [cl_eq hcl (f_eqRecord l[i] (Nat.le_trans (tot_get totRecord l i hlt) ht))]
    rotate_left
    · show _ = _
      kernel_rfl
    · show _ = _
      kernel_rfl
    conv => lhs; whnf
    refine hnext (l.length - (i + 1)) _ _ (h_eqRecordS l (IntKind.i64.wrap ((i : Int) + 1))) [] (by omega) (fun k => by kernel_rfl) ⟨i + 1, by rw [wrap_nat i (by omega)], rfl, rfl, by omega⟩
  · rename_i h
    show _ = _
    kernel_rfl

theorem f_eqDbAct (x : DbAct) (ht : totDbAct x ≤ 1048576) : callL E 43 [vDbAct x, vDbAct x] [] = some (BO true, []) := by
  have hT : totDbAct x = (totL totRecord) x.Batch := rfl
  refine callW (fu := Try.f43) rfl rfl 1 ?_
  intro lp cl hlp hcl
  conv => lhs; whnf
  first | rw [bne_self_eq_false] | rw [not_beq_self] | rw [beq_self_eq_true]
  conv => lhs; whnf
  rw [cl_eq hcl (f_eqRecordS x.Batch (by omega))]
  rotate_left
  · show _ = _
    kernel_rfl
  · show _ = _
    kernel_rfl
  conv => lhs; whnf
  first | rw [bne_self_eq_false] | rw [not_beq_self] | rw [beq_self_eq_true]
  show _ = _
  kernel_rfl

theorem fin_b {b c : Bool} {o : Option (V × Fo)} (h : o = some (BO b, [])) (e : b = c) : o = some (BO c, []) := by subst e; exact h

theorem f_within (n lo hi : Int) : callL E 80 [IN n, IN lo, IN hi] [] = some (BO (inR n lo hi), []) := by
  refine callW (fu := Try.f80) rfl rfl (1) ?_
  intro lp cl hlp hcl
  conv => lhs; whnf
  unfold inR
  cases h : decide (n ≥ lo)
  all_goals kernel_rfl

theorem f_l00In (n lo hi : Int) : callL E 79 [IN n, IN lo, IN hi] [] = some (BO (inR n lo hi), []) := by
  refine callW (fu := Try.f79) rfl rfl (1) ?_
  intro lp cl hlp hcl
  conv => lhs; whnf
  unfold inR
  cases h : decide (n ≥ lo)
  all_goals kernel_rfl


def okAct (x : DbAct) : Bool := decide ((x.Kind = 1 ∧ 1 ≤ x.Batch.length ∧ x.Batch.length ≤ 8 ∧ x.Seq = 0) ∨ (x.Kind = 7 ∧ x.Batch.length = 0 ∧ 0 ≤ x.Seq ∧ x.Seq ≤ 1000000) ∨ (2 ≤ x.Kind ∧ x.Kind ≤ 6 ∧ x.Batch.length = 0 ∧ x.Seq = 0))
theorem f_sValidDbAct (x : DbAct) (hl : x.Batch.length ≤ 1048576) : callL E 40 [vDbAct x] [] = some (BO (okAct x), []) := by
  refine callW (fu := Try.f40) rfl rfl (1) ?_
  intro lp cl hlp hcl
  conv => lhs; whnf
  repeat' (first
    | (rw [cl_eq hcl (f_l00In _ _ _)]; rotate_left; exact rfl; exact rfl; conv => lhs; whnf)
    | (split <;> rename_i hh <;> (try rw [hh]) <;> conv => lhs; whnf))
  all_goals refine fin_b rfl ?_
  all_goals (clear hlp hcl; rw [Bool.eq_iff_iff]; simp [inR, okAct, -List.length_eq_zero_iff] at *; try omega)
theorem f_iValidDbAct (x : DbAct) (hl : x.Batch.length ≤ 1048576) : callL E 42 [vDbAct x] [] = some (BO (okAct x), []) := by
  refine callW (fu := Try.f42) rfl rfl (1) ?_
  intro lp cl hlp hcl
  conv => lhs; whnf
  repeat' (first
    | (rw [cl_eq hcl (f_within _ _ _)]; rotate_left; exact rfl; exact rfl; conv => lhs; whnf)
    | (split <;> rename_i hh <;> (try rw [hh]) <;> conv => lhs; whnf))
  all_goals refine fin_b rfl ?_
  all_goals (clear hlp hcl; rw [Bool.eq_iff_iff]; simp [inR, okAct, -List.length_eq_zero_iff] at *; try omega)


theorem f_law (x : DbAct) (hk : okDbAct x) : callL E 9 [vDbAct x] [] = some (BO true, []) := by
  have ht : totDbAct x = totL totRecord x.Batch := rfl
  have hb := tot_len totRecord x.Batch
  refine callW (fu := Try.f9) rfl rfl (1) ?_
  intro lp cl hlp hcl
  conv => lhs; whnf
  rw [cl_eq hcl (f_szDbAct x hk 1048576 (by omega) (by omega))]
  rotate_left
  · show _ = _
    kernel_rfl
  · show _ = _
    kernel_rfl
  conv => lhs; whnf
  by_cases q : ((totDbAct x : Nat) : Int) ≤ 1048576
  rotate_left
  · rw [szr_neg q]
    show _ = _
    kernel_rfl
  rw [szr_pos q]
  conv => lhs; whnf
  rw [decide_eq_false (show ¬ (1048576 - ((totDbAct x : Nat) : Int) < 0) by omega)]
  conv => lhs; whnf
  repeat' (first
    | (rw [cl_eq hcl (f_toDbAct x (by omega))]; rotate_left; exact rfl; exact rfl; conv => lhs; whnf)
    | (rw [cl_eq hcl (f_sValidDbAct x (by omega))]; rotate_left; exact rfl; exact rfl; conv => lhs; whnf)
    | (rw [cl_eq hcl (f_iValidDbAct x (by omega))]; rotate_left; exact rfl; exact rfl; conv => lhs; whnf)
    | (rw [cl_eq hcl (f_eqDbAct x (by omega))]; rotate_left; exact rfl; exact rfl; conv => lhs; whnf)
    | (rw [bne_self_eq_false]; conv => lhs; whnf)
    | (rw [not_beq_self]; conv => lhs; whnf)
    | (rw [beq_self_eq_true]; conv => lhs; whnf))
  show _ = _
  kernel_rfl

open Go.ChangeShapes Go.WideShapes Go.ChangeAt Go.RowKit
theorem own : ownKnob Try.prog.godebug = none := by kernel_rfl
theorem laidOut : laidOutB Try.prog = true := by kernel_rfl
theorem lifted (os : Os) (started : os.Started) (H : Type) (enc : TypeId × Value → H) :
    ReturnsInHanded {} Try.checked os 9 .any (Rows.fnExactValidDbActSpec.pre6 enc Try.prog Try.f9 Rows.fnExactValidDbActRow.domain false) (Rows.fnExactValidDbActSpec.post enc Try.prog Try.f9 false true false false) := by
  refine returnsInHanded_of_change_sized (C := Try.checked) own started (by kernel_rfl) Try.func9
    (ChangeSpec.witness6 (enc := enc) (C := Try.checked) false ⟨#[], #[.agg #[(.int .i64 0), (.slice none 0 0), (.int .i64 0)]], []⟩ 8 (by kernel_rfl) (by kernel_rfl) (by kernel_rfl) (by kernel_rfl)) ?_
  intro W base args ds gs before hval0 hW hcnd hsz0 _
  have hval : ∀ (j : Nat) t v, Try.f9.params[j]? = some t → args[j]? = some v → Value.okWide Try.prog W .any base t v := hval0
  have hW' := hW
  obtain ⟨p, q, hA0, hV, rfl, hfz, hnd⟩ := hW
  have hA : DataW.TrodAll enc Try.prog W 0 (fun _ => true) true Try.f9.params.toList args.toList ds p := hA0
  rw [Try.params9] at hA hval
  obtain ⟨v0, vs0, d0, ds0, p0, q0, hargs0, rfl, rfl, h0, r0⟩ := trodAll_cons hA
  obtain ⟨rfl, rfl, rfl⟩ := trodAll_nil r0
  obtain rfl : args = #[v0] := by cases args; simp_all
  obtain ⟨rfl, rfl⟩ := trodVars_none hV
  have k0 := h0
  have lt0 : ∀ x ∈ p0, x.block < W.heap.size := by obtain ⟨m, hm⟩ := k0; exact DataW.trod_lt m _ _ _ hm
  obtain ⟨dd0, o0, e0⟩ := open_arg (ty := tyDbAct) (by kernel_rfl) (hval 0 56 v0 rfl rfl) h0
  obtain ⟨x0, rfl, ok0⟩ := of_DbAct o0
  refine (law_calls ok (f_law x0 ok0) (vals := #[v0]) rfl (fun i c u g1 g2 => ?_)).mono fun e W' ⟨he, bel⟩ => ?_
  · match i, g1, g2 with
    | 0, g1, g2 => simp at g1 g2; subst g1; subst g2; exact e0
  subst he
  exact ⟨_, rfl, _, _, _, [], _, [], hW', trodAll_mk1 (shut_bool Try.underlying4 _), (trodAll_cons_mk (Below.trod laidOut (by kernel_rfl) (of_decide_eq_true (by kernel_rfl)) k0 bel lt0) trodAll_mk0), rfl, bel.frame _, fun h => by cases h⟩
theorem over : Rows.fnExactValidDbActRow.holds Try.pinned (OpenSpec.ofChange Rows.fnExactValidDbActSpec) :=
  OpenClaim.holds_of_wide 9 Try.f9 rfl rfl rfl rfl rfl rfl rfl ⟨rfl, rfl, rfl, rfl, rfl⟩ rfl rfl rfl rfl rfl (by kernel_rfl) Try.func9 (by kernel_rfl)
    (of_decide_eq_true (by kernel_rfl)) (by unfold Func.isWrapper; first | (rw [if_pos (by decide +kernel)]; kernel_rfl) | (rw [if_neg (by decide +kernel)]; exact ⟨rfl, rfl⟩))
    (fun os started H enc _ => lifted os started H enc)
theorem proved : Rows.FnExactValidDbActSaid := over

end Go.Proofs.Ytgcdkchdgeppdaa.T07
namespace Go.Proofs.Ytgcdkchdgeppdaa
theorem fnExactValidDbAct_holds : Rows.FnExactValidDbActSaid := T07.proved
end Go.Proofs.Ytgcdkchdgeppdaa

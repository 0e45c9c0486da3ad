/- FnExactValidTrial: what its functions come to, and the row; conditions: none. -/
import Derived.Test.YthpcnbjpdcpfbaaT17
import Derived.Test.YthpcnbjpdcpfbaaEr
import Derived.Test.YthpcnbjpdcpfbaaRows
import Derived.WalkKit
import Derived.ProofKit
import Derived.OpenShut
import Derived.ShutString
import Derived.ChangeOld
import Derived.Below
import Derived.SizedLaws
namespace Go.Proofs.Ythpcnbjpdcpfbaa.T17
open Go.Proofs.YthpcnbjpdcpfbaaE
set_option maxRecDepth 100000
set_option linter.unusedVariables false
set_option linter.unusedSimpArgs false

theorem f_szRecord (x : Record) (hk : okRecord x) (left : Int) (h0 : 0 ≤ left) (h1 : left ≤ 1048576) : callL E 214 [vRecord x, IN left] [] = some (IN (szr (totRecord x) left), []) := by
  have hT : totRecord x = ByteArray.size x.Key + ByteArray.size x.Value + ByteArray.size x.End := rfl
  have ⟨kKey, kSeq, kKind, kValue, kEnd⟩ := hk
  refine callW (fu := Try.f214) rfl rfl 1 ?_
  intro lp cl hlp hcl
  conv => lhs; whnf
  have hw0 : IntKind.i64.wrap (left - ((ByteArray.size x.Key : Nat) : Int)) = left - ((ByteArray.size x.Key : Nat) : Int) := by
    have := kKey; unfold okS at this; rw [IntKind.wrap_i64]; omega
  rw [hw0]
  by_cases q0 : ((ByteArray.size x.Key : Nat) : Int) ≤ left
  rotate_left
  · rw [decide_eq_true (show left - ((ByteArray.size x.Key : Nat) : Int) < 0 by omega)]
    rw [szr_neg (by omega)]
    show _ = _
    kernel_rfl
  rw [decide_eq_false (show ¬ (left - ((ByteArray.size x.Key : Nat) : Int) < 0) by omega)]
  conv => lhs; whnf
  have hw1 : IntKind.i64.wrap ((left - ((ByteArray.size x.Key : Nat) : Int)) - ((ByteArray.size x.Value : Nat) : Int)) = (left - ((ByteArray.size x.Key : Nat) : Int)) - ((ByteArray.size x.Value : Nat) : Int) := by
    have := kValue; unfold okS at this; rw [IntKind.wrap_i64]; omega
  rw [hw1]
  by_cases q1 : ((ByteArray.size x.Value : Nat) : Int) ≤ (left - ((ByteArray.size x.Key : Nat) : Int))
  rotate_left
  · rw [decide_eq_true (show (left - ((ByteArray.size x.Key : Nat) : Int)) - ((ByteArray.size x.Value : Nat) : Int) < 0 by omega)]
    rw [szr_neg (by omega)]
    show _ = _
    kernel_rfl
  rw [decide_eq_false (show ¬ ((left - ((ByteArray.size x.Key : Nat) : Int)) - ((ByteArray.size x.Value : Nat) : Int) < 0) by omega)]
  conv => lhs; whnf
  have hw2 : IntKind.i64.wrap (((left - ((ByteArray.size x.Key : Nat) : Int)) - ((ByteArray.size x.Value : Nat) : Int)) - ((ByteArray.size x.End : Nat) : Int)) = ((left - ((ByteArray.size x.Key : Nat) : Int)) - ((ByteArray.size x.Value : Nat) : Int)) - ((ByteArray.size x.End : Nat) : Int) := by
    have := kEnd; unfold okS at this; rw [IntKind.wrap_i64]; omega
  rw [hw2]
  by_cases q2 : ((ByteArray.size x.End : Nat) : Int) ≤ ((left - ((ByteArray.size x.Key : Nat) : Int)) - ((ByteArray.size x.Value : Nat) : Int))
  rotate_left
  · rw [decide_eq_true (show ((left - ((ByteArray.size x.Key : Nat) : Int)) - ((ByteArray.size x.Value : Nat) : Int)) - ((ByteArray.size x.End : Nat) : Int) < 0 by omega)]
    rw [szr_neg (by omega)]
    show _ = _
    kernel_rfl
  rw [decide_eq_false (show ¬ (((left - ((ByteArray.size x.Key : Nat) : Int)) - ((ByteArray.size x.Value : Nat) : Int)) - ((ByteArray.size x.End : Nat) : Int) < 0) by omega)]
  conv => lhs; whnf
  rw [szr_pos (show ((totRecord x : Nat) : Int) ≤ left by omega), show left - ((totRecord x : Nat) : Int) = (((left - ((ByteArray.size x.Key : Nat) : Int)) - ((ByteArray.size x.Value : Nat) : Int)) - ((ByteArray.size x.End : Nat) : Int)) by omega]
  show _ = _
  kernel_rfl

def h_szRecordS (l : List Record) (c n : Int) : List V := ([.d (.arr (l.map rRecord)), IN c, .dead, .dead, .dead, IN n] ++ List.replicate 21 .dead : List V)
theorem f_szRecordS (l : List Record) (hk : okL okRecord l) (left : Int) (h0 : 0 ≤ left) (h1 : left ≤ 1048576) : callL E 195 [.d (.arr (l.map rRecord)), IN left] [] = some (IN (szr ((totL totRecord) l) left), []) := by
  have hl := hk.1
  refine callW (fu := Try.f195) rfl rfl (l.length + 1) ?_
  intro lp cl hlp hcl
  generalize hN : l.length + 1 = N
  conv => lhs; whnf
  have hw : IntKind.i64.wrap (left - ((l.map rRecord).length : Int)) = left - (l.length : Int) := by rw [IntKind.wrap_i64, List.length_map]; omega
  rw [hw]
  by_cases q : (l.length : Int) ≤ left
  rotate_left
  · rw [decide_eq_true (show left - (l.length : Int) < 0 by omega), szr_neg (by unfold totL; omega)]
    show _ = _
    kernel_rfl
  rw [decide_eq_false (show ¬ (left - (l.length : Int) < 0) by omega)]
  conv => lhs; whnf
  rw [hlp]
  refine loop_rule (fun d t F => ∃ i : Nat, t = h_szRecordS l (left - (l.length : Int) - (((l.take i).map totRecord).sum : Nat)) i ∧ F = [] ∧ d = l.length - i ∧ i ≤ l.length ∧ ((((l.take i).map totRecord).sum : Nat) : Int) ≤ left - l.length) ?_ N l.length _ _ (by omega) ⟨h_szRecordS l (left - (l.length : Int)) 0, [], fun k => by kernel_rfl, 0, by simp, rfl, by omega, by omega, by simpa using (show (l.length : Int) ≤ left from q)⟩
  rintro d t F ⟨i, rfl, rfl, rfl, hi, hs⟩ next hnext
  have hq := sum_take_le totRecord l i
  generalize hS : (((l.take i).map totRecord).sum : Nat) = S at *
  conv => lhs; whnf
  split
  · rename_i h
    have hlt : i < l.length := by have := of_decide_eq_true h; simp at this; omega
    have hg := get_map rRecord l i hlt
    have hn := sum_take_succ totRecord l i hlt
    have hq1 := sum_take_le totRecord l (i + 1)
    rw [hS] at hn
    conv => lhs; whnf
    repeat (rw [hg]; conv => lhs; whnf)
    rw [cl_eq hcl (f_szRecord l[i] (hk.2 _ (List.getElem_mem _)) (left - l.length - S) (by omega) (by omega))]
    rotate_left
    · show _ = _
      kernel_rfl
    · show _ = _
      kernel_rfl
    by_cases q2 : ((totRecord l[i] : Nat) : Int) ≤ left - l.length - S
    rotate_left
    · rw [szr_neg q2, szr_neg (by unfold totL; omega)]
      show _ = _
      kernel_rfl
    rw [szr_pos q2]
    conv => lhs; whnf
    rw [decide_eq_false (show ¬ ((left - (l.length : Int) - (S : Int) - ((totRecord l[i] : Nat) : Int)) < 0) by omega)]
    conv => lhs; whnf
    refine hnext (l.length - (i + 1)) _ _ (h_szRecordS l (left - (l.length : Int) - (S : Int) - ((totRecord l[i] : Nat) : Int)) (IntKind.i64.wrap ((i : Int) + 1))) [] (by omega) (fun k => by kernel_rfl) ⟨i + 1, by rw [wrap_nat i (by omega), show left - (l.length : Int) - ((((l.take (i + 1)).map totRecord).sum : Nat) : Int) = (left - (l.length : Int) - (S : Int) - ((totRecord l[i] : Nat) : Int)) by omega], rfl, rfl, by omega, by omega⟩
  · rename_i h
    have hlt : i = l.length := by have := of_decide_eq_false h; simp at this; omega
    subst hlt
    rw [List.take_length] at hS
    rw [szr_pos (by unfold totL; omega), show left - ((totL totRecord l : Nat) : Int) = left - (l.length : Int) - (S : Int) by unfold totL; omega]
    show _ = _
    kernel_rfl

theorem f_szDbAct (x : DbAct) (hk : okDbAct x) (left : Int) (h0 : 0 ≤ left) (h1 : left ≤ 1048576) : callL E 164 [vDbAct x, IN left] [] = some (IN (szr (totDbAct x) left), []) := by
  have hT : totDbAct x = (totL totRecord) x.Batch := rfl
  have ⟨kKind, kBatch, kSeq⟩ := hk
  refine callW (fu := Try.f164) rfl rfl 1 ?_
  intro lp cl hlp hcl
  conv => lhs; whnf
  rw [cl_eq hcl (f_szRecordS x.Batch kBatch (left) (by omega) (by omega))]
  rotate_left
  · show _ = _
    kernel_rfl
  · show _ = _
    kernel_rfl
  by_cases q0 : (((totL totRecord) x.Batch : Nat) : Int) ≤ left
  rotate_left
  · rw [szr_neg q0, szr_neg (by omega)]
    show _ = _
    kernel_rfl
  rw [szr_pos q0]
  conv => lhs; whnf
  rw [decide_eq_false (show ¬ (left - (((totL totRecord) x.Batch : Nat) : Int) < 0) by omega)]
  conv => lhs; whnf
  rw [szr_pos (show ((totDbAct x : Nat) : Int) ≤ left by omega), show left - ((totDbAct x : Nat) : Int) = (left - (((totL totRecord) x.Batch : Nat) : Int)) by omega]
  show _ = _
  kernel_rfl

def h_szDbActS (l : List DbAct) (c n : Int) : List V := ([.d (.arr (l.map rDbAct)), IN c, .dead, .dead, .dead, IN n] ++ List.replicate 21 .dead : List V)
theorem f_szDbActS (l : List DbAct) (hk : okL okDbAct l) (left : Int) (h0 : 0 ≤ left) (h1 : left ≤ 1048576) : callL E 106 [.d (.arr (l.map rDbAct)), IN left] [] = some (IN (szr ((totL totDbAct) l) left), []) := by
  have hl := hk.1
  refine callW (fu := Try.f106) rfl rfl (l.length + 1) ?_
  intro lp cl hlp hcl
  generalize hN : l.length + 1 = N
  conv => lhs; whnf
  have hw : IntKind.i64.wrap (left - ((l.map rDbAct).length : Int)) = left - (l.length : Int) := by rw [IntKind.wrap_i64, List.length_map]; omega
  rw [hw]
  by_cases q : (l.length : Int) ≤ left
  rotate_left
  · rw [decide_eq_true (show left - (l.length : Int) < 0 by omega), szr_neg (by unfold totL; omega)]
    show _ = _
    kernel_rfl
  rw [decide_eq_false (show ¬ (left - (l.length : Int) < 0) by omega)]
  conv => lhs; whnf
  rw [hlp]
  refine loop_rule (fun d t F => ∃ i : Nat, t = h_szDbActS l (left - (l.length : Int) - (((l.take i).map totDbAct).sum : Nat)) i ∧ F = [] ∧ d = l.length - i ∧ i ≤ l.length ∧ ((((l.take i).map totDbAct).sum : Nat) : Int) ≤ left - l.length) ?_ N l.length _ _ (by omega) ⟨h_szDbActS l (left - (l.length : Int)) 0, [], fun k => by kernel_rfl, 0, by simp, rfl, by omega, by omega, by simpa using (show (l.length : Int) ≤ left from q)⟩
  rintro d t F ⟨i, rfl, rfl, rfl, hi, hs⟩ next hnext
  have hq := sum_take_le totDbAct l i
  generalize hS : (((l.take i).map totDbAct).sum : Nat) = S at *
  conv => lhs; whnf
  split
  · rename_i h
    have hlt : i < l.length := by have := of_decide_eq_true h; simp at this; omega
    have hg := get_map rDbAct l i hlt
    have hn := sum_take_succ totDbAct l i hlt
    have hq1 := sum_take_le totDbAct l (i + 1)
    rw [hS] at hn
    conv => lhs; whnf
    repeat (rw [hg]; conv => lhs; whnf)
    rw [cl_eq hcl (f_szDbAct l[i] (hk.2 _ (List.getElem_mem _)) (left - l.length - S) (by omega) (by omega))]
    rotate_left
    · show _ = _
      kernel_rfl
    · show _ = _
      kernel_rfl
    by_cases q2 : ((totDbAct l[i] : Nat) : Int) ≤ left - l.length - S
    rotate_left
    · rw [szr_neg q2, szr_neg (by unfold totL; omega)]
      show _ = _
      kernel_rfl
    rw [szr_pos q2]
    conv => lhs; whnf
    rw [decide_eq_false (show ¬ ((left - (l.length : Int) - (S : Int) - ((totDbAct l[i] : Nat) : Int)) < 0) by omega)]
    conv => lhs; whnf
    refine hnext (l.length - (i + 1)) _ _ (h_szDbActS l (left - (l.length : Int) - (S : Int) - ((totDbAct l[i] : Nat) : Int)) (IntKind.i64.wrap ((i : Int) + 1))) [] (by omega) (fun k => by kernel_rfl) ⟨i + 1, by rw [wrap_nat i (by omega), show left - (l.length : Int) - ((((l.take (i + 1)).map totDbAct).sum : Nat) : Int) = (left - (l.length : Int) - (S : Int) - ((totDbAct l[i] : Nat) : Int)) by omega], rfl, rfl, by omega, by omega⟩
  · rename_i h
    have hlt : i = l.length := by have := of_decide_eq_false h; simp at this; omega
    subst hlt
    rw [List.take_length] at hS
    rw [szr_pos (by unfold totL; omega), show left - ((totL totDbAct l : Nat) : Int) = left - (l.length : Int) - (S : Int) by unfold totL; omega]
    show _ = _
    kernel_rfl

theorem f_szTrial (x : Trial) (hk : okTrial x) (left : Int) (h0 : 0 ≤ left) (h1 : left ≤ 1048576) : callL E 41 [vTrial x, IN left] [] = some (IN (szr (totTrial x) left), []) := by
  have hT : totTrial x = (totL totDbAct) x.Acts := rfl
  have ⟨kGeo, kZones, kActs⟩ := hk
  refine callW (fu := Try.f41) rfl rfl 1 ?_
  intro lp cl hlp hcl
  conv => lhs; whnf
  rw [cl_eq hcl (f_szDbActS x.Acts kActs (left) (by omega) (by omega))]
  rotate_left
  · show _ = _
    kernel_rfl
  · show _ = _
    kernel_rfl
  by_cases q0 : (((totL totDbAct) x.Acts : Nat) : Int) ≤ left
  rotate_left
  · rw [szr_neg q0, szr_neg (by omega)]
    show _ = _
    kernel_rfl
  rw [szr_pos q0]
  conv => lhs; whnf
  rw [decide_eq_false (show ¬ (left - (((totL totDbAct) x.Acts : Nat) : Int) < 0) by omega)]
  conv => lhs; whnf
  rw [szr_pos (show ((totTrial x : Nat) : Int) ≤ left by omega), show left - ((totTrial x : Nat) : Int) = (left - (((totL totDbAct) x.Acts : Nat) : Int)) by omega]
  show _ = _
  kernel_rfl

theorem f_toGeometry (x : Geometry) : callL E 101 [vGeometry x] [] = some (vGeometry x, []) := by
  refine callW (fu := Try.f101) rfl rfl 1 ?_
  intro lp cl hlp hcl
  show _ = _
  kernel_rfl

theorem f_toRecord (x : Record) (ht : totRecord x ≤ 1048576) : callL E 215 [vRecord x] [] = some (vRecord x, []) := by
  have hT : totRecord x = ByteArray.size x.Key + ByteArray.size x.Value + ByteArray.size x.End := rfl
  refine callW (fu := Try.f215) rfl rfl 1 ?_
  intro lp cl hlp hcl
  show _ = _
  kernel_rfl

def h_toRecordS (l : List Record) (n : Int) : List V := ([.d (.arr (l.map rRecord)), .dead, .dead, .sl 0, IN n] ++ List.replicate 18 .dead : List V)
def z_toRecordS : List D := [.lit (.string ⟨#[]⟩), .lit (.int .i64 0), .lit (.int .i64 0), .lit (.string ⟨#[]⟩), .lit (.string ⟨#[]⟩)]
theorem f_toRecordS (l : List Record) (ht : (totL totRecord) l ≤ 1048576) : callL E 196 [.d (.arr (l.map rRecord))] [] = some (.d (.arr (l.map rRecord)), []) := by
  have hl : l.length ≤ 1048576 := by unfold totL at ht; omega
  refine callW (fu := Try.f196) rfl rfl (l.length + 1) ?_
  intro lp cl hlp hcl
  generalize hN : l.length + 1 = N
  conv => lhs; whnf
  rw [mkOk_nat (l.map rRecord).length 64 5 (by simp; omega) rfl rfl]
  conv => lhs; whnf
  rw [hlp]
  refine loop_rule (fun d t F => ∃ i : Nat, t = h_toRecordS l i ∧ F = [some (.arr 251 5 ((l.take i).map rRecord ++ List.replicate (l.length - i) z_toRecordS))] ∧ d = l.length - i ∧ i ≤ l.length) ?_ N l.length _ _ (by omega) ⟨h_toRecordS l 0, [some (.arr 251 5 (List.replicate (l.map rRecord).length z_toRecordS))], fun k => by kernel_rfl, 0, rfl, by simp, by omega, by omega⟩
  rintro d t F ⟨i, rfl, rfl, rfl, hi⟩ next hnext
  conv => lhs; whnf
  split
  · rename_i h
    have hlt : i < l.length := by have := of_decide_eq_true h; simp at this; omega
    have hg := get_map rRecord l i hlt
    conv => lhs; whnf
    repeat (rw [hg]; conv => lhs; whnf)
    rw [cl_eq hcl (f_toRecord l[i] (Nat.le_trans (tot_get totRecord l i hlt) ht))]
    rotate_left
    · show _ = _
      kernel_rfl
    · show _ = _
      kernel_rfl
    conv => lhs; whnf
    have hq := get_row rRecord l z_toRecordS i hlt
    repeat (rw [hq]; conv => lhs; whnf)
    refine hnext (l.length - (i + 1)) _ _ (h_toRecordS l (IntKind.i64.wrap ((i : Int) + 1))) [some (.arr 251 5 (((l.take i).map rRecord ++ List.replicate (l.length - i) z_toRecordS).set ((i : Nat) : Int).toNat (rRecord l[i])))] (by omega) (fun k => by kernel_rfl) ⟨i + 1, by rw [wrap_nat i (by omega)], by rw [take_row rRecord l z_toRecordS i hlt], rfl, by omega⟩
  · rename_i h
    have hlt : i = l.length := by have := of_decide_eq_false h; simp at this; omega
    conv => lhs; whnf
    subst hlt
    rw [List.take_length, Nat.sub_self, List.replicate_zero, List.append_nil]
    show _ = _
    kernel_rfl

theorem f_toDbAct (x : DbAct) (ht : totDbAct x ≤ 1048576) : callL E 165 [vDbAct x] [] = some (vDbAct x, []) := by
  have hT : totDbAct x = (totL totRecord) x.Batch := rfl
  refine callW (fu := Try.f165) rfl rfl 1 ?_
  intro lp cl hlp hcl
  conv => lhs; whnf
  rw [cl_eq hcl (f_toRecordS x.Batch (by omega))]
  rotate_left
  · show _ = _
    kernel_rfl
  · show _ = _
    kernel_rfl
  show _ = _
  kernel_rfl

def h_toDbActS (l : List DbAct) (n : Int) : List V := ([.d (.arr (l.map rDbAct)), .dead, .dead, .sl 0, IN n] ++ List.replicate 18 .dead : List V)
def z_toDbActS : List D := [.lit (.int .i64 0), .arr [], .lit (.int .i64 0)]
theorem f_toDbActS (l : List DbAct) (ht : (totL totDbAct) l ≤ 1048576) : callL E 109 [.d (.arr (l.map rDbAct))] [] = some (.d (.arr (l.map rDbAct)), []) := by
  have hl : l.length ≤ 1048576 := by unfold totL at ht; omega
  refine callW (fu := Try.f109) rfl rfl (l.length + 1) ?_
  intro lp cl hlp hcl
  generalize hN : l.length + 1 = N
  conv => lhs; whnf
  rw [mkOk_nat (l.map rDbAct).length 40 3 (by simp; omega) rfl rfl]
  conv => lhs; whnf
  rw [hlp]
  refine loop_rule (fun d t F => ∃ i : Nat, t = h_toDbActS l i ∧ F = [some (.arr 145 3 ((l.take i).map rDbAct ++ List.replicate (l.length - i) z_toDbActS))] ∧ d = l.length - i ∧ i ≤ l.length) ?_ N l.length _ _ (by omega) ⟨h_toDbActS l 0, [some (.arr 145 3 (List.replicate (l.map rDbAct).length z_toDbActS))], fun k => by kernel_rfl, 0, rfl, by simp, by omega, by omega⟩
  rintro d t F ⟨i, rfl, rfl, rfl, hi⟩ next hnext
  conv => lhs; whnf
  split
  · rename_i h
    have hlt : i < l.length := by have := of_decide_eq_true h; simp at this; omega
    have hg := get_map rDbAct l i hlt
    conv => lhs; whnf
    repeat (rw [hg]; conv => lhs; whnf)
    rw [cl_eq hcl (f_toDbAct l[i] (Nat.le_trans (tot_get totDbAct l i hlt) ht))]
    rotate_left
    · show _ = _
      kernel_rfl
    · show _ = _
      kernel_rfl
    conv => lhs; whnf
    have hq := get_row rDbAct l z_toDbActS i hlt
    repeat (rw [hq]; conv => lhs; whnf)
    refine hnext (l.length - (i + 1)) _ _ (h_toDbActS l (IntKind.i64.wrap ((i : Int) + 1))) [some (.arr 145 3 (((l.take i).map rDbAct ++ List.replicate (l.length - i) z_toDbActS).set ((i : Nat) : Int).toNat (rDbAct l[i])))] (by omega) (fun k => by kernel_rfl) ⟨i + 1, by rw [wrap_nat i (by omega)], by rw [take_row rDbAct l z_toDbActS i hlt], rfl, by omega⟩
  · rename_i h
    have hlt : i = l.length := by have := of_decide_eq_false h; simp at this; omega
    conv => lhs; whnf
    subst hlt
    rw [List.take_length, Nat.sub_self, List.replicate_zero, List.append_nil]
    show _ = _
    kernel_rfl

theorem f_toTrial (x : Trial) (ht : totTrial x ≤ 1048576) : callL E 43 [vTrial x] [] = some (vTrial x, []) := by
  have hT : totTrial x = (totL totDbAct) x.Acts := rfl
  refine callW (fu := Try.f43) rfl rfl 1 ?_
  intro lp cl hlp hcl
  conv => lhs; whnf
  rw [cl_eq hcl (f_toGeometry x.Geo)]
  rotate_left
  · show _ = _
    kernel_rfl
  · show _ = _
    kernel_rfl
  conv => lhs; whnf
  rw [cl_eq hcl (f_toDbActS x.Acts (by omega))]
  rotate_left
  · show _ = _
    kernel_rfl
  · show _ = _
    kernel_rfl
  show _ = _
  kernel_rfl

theorem f_eqGeometry (x : Geometry) : callL E 104 [vGeometry x, vGeometry x] [] = some (BO true, []) := by
  refine callW (fu := Try.f104) rfl rfl 1 ?_
  intro lp cl hlp hcl
  conv => lhs; whnf
  first | rw [bne_self_eq_false] | rw [not_beq_self] | rw [beq_self_eq_true]
  conv => lhs; whnf
  first | rw [bne_self_eq_false] | rw [not_beq_self] | rw [beq_self_eq_true]
  conv => lhs; whnf
  first | rw [bne_self_eq_false] | rw [not_beq_self] | rw [beq_self_eq_true]
  show _ = _
  kernel_rfl

theorem f_eqRecord (x : Record) (ht : totRecord x ≤ 1048576) : callL E 216 [vRecord x, vRecord x] [] = some (BO true, []) := by
  have hT : totRecord x = ByteArray.size x.Key + ByteArray.size x.Value + ByteArray.size x.End := rfl
  refine callW (fu := Try.f216) rfl rfl 1 ?_
  intro lp cl hlp hcl
  conv => lhs; whnf
  first | rw [bne_self_eq_false] | rw [not_beq_self] | rw [beq_self_eq_true]
  conv => lhs; whnf
  first | rw [bne_self_eq_false] | rw [not_beq_self] | rw [beq_self_eq_true]
  conv => lhs; whnf
  first | rw [bne_self_eq_false] | rw [not_beq_self] | rw [beq_self_eq_true]
  conv => lhs; whnf
  first | rw [bne_self_eq_false] | rw [not_beq_self] | rw [beq_self_eq_true]
  conv => lhs; whnf
  first | rw [bne_self_eq_false] | rw [not_beq_self] | rw [beq_self_eq_true]
  show _ = _
  kernel_rfl

def h_eqRecordS (l : List Record) (n : Int) : List V := ([.d (.arr (l.map rRecord)), .d (.arr (l.map rRecord)), .dead, .dead, .dead, IN n] ++ List.replicate 21 .dead : List V)
theorem f_eqRecordS (l : List Record) (ht : (totL totRecord) l ≤ 1048576) : callL E 197 [.d (.arr (l.map rRecord)), .d (.arr (l.map rRecord))] [] = some (BO true, []) := by
  have hl : l.length ≤ 1048576 := by unfold totL at ht; omega
  refine callW (fu := Try.f197) rfl rfl (l.length + 1) ?_
  intro lp cl hlp hcl
  generalize hN : l.length + 1 = N
  conv => lhs; whnf
  first | rw [bne_self_eq_false] | rw [not_beq_self] | rw [beq_self_eq_true]
  conv => lhs; whnf
  rw [hlp]
  refine loop_rule (fun d t F => ∃ i : Nat, t = h_eqRecordS l i ∧ F = [] ∧ d = l.length - i ∧ i ≤ l.length) ?_ N l.length _ _ (by omega) ⟨h_eqRecordS l 0, [], fun k => by kernel_rfl, 0, rfl, rfl, by omega, by omega⟩
  rintro d t F ⟨i, rfl, rfl, rfl, hi⟩ next hnext
  conv => lhs; whnf
  split
  · rename_i h
    have hlt : i < l.length := by have := of_decide_eq_true h; simp at this; omega
    have hg := get_map rRecord l i hlt
    conv => lhs; whnf
    repeat (rw [hg]; conv => lhs; whnf)
    rw [cl_eq hcl (f_eqRecord l[i] (Nat.le_trans (tot_get totRecord l i hlt) ht))]
    rotate_left
    · show _ = _
      kernel_rfl
    · show _ = _
      kernel_rfl
    conv => lhs; whnf
    refine hnext (l.length - (i + 1)) _ _ (h_eqRecordS l (IntKind.i64.wrap ((i : Int) + 1))) [] (by omega) (fun k => by kernel_rfl) ⟨i + 1, by rw [wrap_nat i (by omega)], rfl, rfl, by omega⟩
  · rename_i h
    show _ = _
    kernel_rfl

theorem f_eqDbAct (x : DbAct) (ht : totDbAct x ≤ 1048576) : callL E 167 [vDbAct x, vDbAct x] [] = some (BO true, []) := by
  have hT : totDbAct x = (totL totRecord) x.Batch := rfl
  refine callW (fu := Try.f167) rfl rfl 1 ?_
  intro lp cl hlp hcl
  conv => lhs; whnf
  first | rw [bne_self_eq_false] | rw [not_beq_self] | rw [beq_self_eq_true]
  conv => lhs; whnf
  rw [cl_eq hcl (f_eqRecordS x.Batch (by omega))]
  rotate_left
  · show _ = _
    kernel_rfl
  · show _ = _
    kernel_rfl
  conv => lhs; whnf
  first | rw [bne_self_eq_false] | rw [not_beq_self] | rw [beq_self_eq_true]
  show _ = _
  kernel_rfl

def h_eqDbActS (l : List DbAct) (n : Int) : List V := ([.d (.arr (l.map rDbAct)), .d (.arr (l.map rDbAct)), .dead, .dead, .dead, IN n] ++ List.replicate 21 .dead : List V)
theorem f_eqDbActS (l : List DbAct) (ht : (totL totDbAct) l ≤ 1048576) : callL E 114 [.d (.arr (l.map rDbAct)), .d (.arr (l.map rDbAct))] [] = some (BO true, []) := by
  have hl : l.length ≤ 1048576 := by unfold totL at ht; omega
  refine callW (fu := Try.f114) rfl rfl (l.length + 1) ?_
  intro lp cl hlp hcl
  generalize hN : l.length + 1 = N
  conv => lhs; whnf
  first | rw [bne_self_eq_false] | rw [not_beq_self] | rw [beq_self_eq_true]
  conv => lhs; whnf
  rw [hlp]
  refine loop_rule (fun d t F => ∃ i : Nat, t = h_eqDbActS l i ∧ F = [] ∧ d = l.length - i ∧ i ≤ l.length) ?_ N l.length _ _ (by omega) ⟨h_eqDbActS l 0, [], fun k => by kernel_rfl, 0, rfl, rfl, by omega, by omega⟩
  rintro d t F ⟨i, rfl, rfl, rfl, hi⟩ next hnext
  conv => lhs; whnf
  split
  · rename_i h
    have hlt : i < l.length := by have := of_decide_eq_true h; simp at this; omega
    have hg := get_map rDbAct l i hlt
    conv => lhs; whnf
    repeat (rw [hg]; conv => lhs; whnf)
    rw [cl_eq hcl (f_eqDbAct l[i] (Nat.le_trans (tot_get totDbAct l i hlt) ht))]
    rotate_left
    · show _ = _
      kernel_rfl
    · show _ = _
      kernel_rfl
    conv => lhs; whnf
    refine hnext (l.length - (i + 1)) _ _ (h_eqDbActS l (IntKind.i64.wrap ((i : Int) + 1))) [] (by omega) (fun k => by kernel_rfl) ⟨i + 1, by rw [wrap_nat i (by omega)], rfl, rfl, by omega⟩
  · rename_i h
    show _ = _
    kernel_rfl

theorem f_eqTrial (x : Trial) (ht : totTrial x ≤ 1048576) : callL E 45 [vTrial x, vTrial x] [] = some (BO true, []) := by
  have hT : totTrial x = (totL totDbAct) x.Acts := rfl
  refine callW (fu := Try.f45) rfl rfl 1 ?_
  intro lp cl hlp hcl
  conv => lhs; whnf
  rw [cl_eq hcl (f_eqGeometry x.Geo)]
  rotate_left
  · show _ = _
    kernel_rfl
  · show _ = _
    kernel_rfl
  conv => lhs; whnf
  first | rw [bne_self_eq_false] | rw [not_beq_self] | rw [beq_self_eq_true]
  conv => lhs; whnf
  rw [cl_eq hcl (f_eqDbActS x.Acts (by omega))]
  rotate_left
  · show _ = _
    kernel_rfl
  · show _ = _
    kernel_rfl
  show _ = _
  kernel_rfl

theorem fin_b {b c : Bool} {o : Option (V × Fo)} (h : o = some (BO b, [])) (e : b = c) : o = some (BO c, []) := by subst e; exact h

theorem f_within (n lo hi : Int) : callL E 96 [IN n, IN lo, IN hi] [] = some (BO (inR n lo hi), []) := by
  refine callW (fu := Try.f96) rfl rfl (1) ?_
  intro lp cl hlp hcl
  conv => lhs; whnf
  unfold inR
  cases h : decide (n ≥ lo)
  all_goals kernel_rfl

theorem f_l00In (n lo hi : Int) : callL E 92 [IN n, IN lo, IN hi] [] = some (BO (inR n lo hi), []) := by
  refine callW (fu := Try.f92) rfl rfl (1) ?_
  intro lp cl hlp hcl
  conv => lhs; whnf
  unfold inR
  cases h : decide (n ≥ lo)
  all_goals kernel_rfl


def okGeo (g : Geometry) : Bool := decide (2 ≤ g.Dies ∧ g.Dies ≤ 3 ∧ 4 ≤ g.Blocks ∧ g.Blocks ≤ 12 ∧ (g.Pages = 8 ∨ g.Pages = 16))
theorem f_sGeo (x : Geometry) : callL E 107 [vGeometry x] [] = some (BO (okGeo x), []) := by
  refine callW (fu := Try.f107) rfl rfl (1) ?_
  intro lp cl hlp hcl
  conv => lhs; whnf
  repeat' (first
    | (rw [cl_eq hcl (f_l00In _ _ _)]; rotate_left; exact rfl; exact rfl; conv => lhs; whnf)
    | (split <;> rename_i hh <;> (try rw [hh]) <;> conv => lhs; whnf))
  all_goals refine fin_b rfl ?_
  all_goals (clear hlp hcl; rw [Bool.eq_iff_iff]; simp [inR, okGeo, -List.length_eq_zero_iff] at *; try omega)
theorem f_iGeo (x : Geometry) : callL E 110 [vGeometry x] [] = some (BO (okGeo x), []) := by
  refine callW (fu := Try.f110) rfl rfl (1) ?_
  intro lp cl hlp hcl
  conv => lhs; whnf
  repeat' (first
    | (rw [cl_eq hcl (f_within _ _ _)]; rotate_left; exact rfl; exact rfl; conv => lhs; whnf)
    | (split <;> rename_i hh <;> (try rw [hh]) <;> conv => lhs; whnf))
  all_goals refine fin_b rfl ?_
  all_goals (clear hlp hcl; rw [Bool.eq_iff_iff]; simp [inR, okGeo, -List.length_eq_zero_iff] at *; try omega)


/-- The first that holds. -/
def idxP {α : Type} (p : α → Bool) (l : List α) : Int := match l.findIdx? p with
  | some i => i
  | none => -1
theorem idxP_some {α : Type} {p : α → Bool} {l : List α} {i : Nat} (h : i < l.length) (h1 : p l[i] = true) (h2 : ∀ j (hj : j < i), p (l[j]'(by omega)) = false) : idxP p l = i := by
  unfold idxP
  rw [List.findIdx?_eq_some_iff_getElem.mpr ⟨h, h1, fun j hj => by simp [h2 j hj]⟩]
theorem idxP_none {α : Type} {p : α → Bool} {l : List α} (h : ∀ j (hj : j < l.length), p l[j] = false) : idxP p l = -1 := by
  unfold idxP
  rw [List.findIdx?_eq_none_iff.mpr (fun x hx => by
    obtain ⟨j, hj, rfl⟩ := List.mem_iff_getElem.mp hx
    exact h j hj)]
theorem idxP_any {α : Type} (p : α → Bool) (l : List α) : decide (idxP p l ≥ 0) = l.any p := by
  unfold idxP
  split
  · rename_i i h
    obtain ⟨hlt, h1, _⟩ := List.findIdx?_eq_some_iff_getElem.mp h
    have : l.any p = true := List.any_eq_true.mpr ⟨l[i], List.getElem_mem _, h1⟩
    rw [this]; simp
  · rename_i h
    have := List.findIdx?_eq_none_iff.mp h
    have h2 : l.any p = false := List.any_eq_false.mpr fun x hx => by simpa using this x hx
    rw [h2]; simp

def okAct (x : DbAct) : Bool := decide ((x.Kind = 1 ∧ 1 ≤ x.Batch.length ∧ x.Batch.length ≤ 8 ∧ x.Seq = 0) ∨ (x.Kind = 7 ∧ x.Batch.length = 0 ∧ 0 ≤ x.Seq ∧ x.Seq ≤ 1000000) ∨ (2 ≤ x.Kind ∧ x.Kind ≤ 6 ∧ x.Batch.length = 0 ∧ x.Seq = 0))
theorem f_sValidDbAct (x : DbAct) (hl : x.Batch.length ≤ 1048576) : callL E 108 [vDbAct x] [] = some (BO (okAct x), []) := by
  refine callW (fu := Try.f108) rfl rfl (1) ?_
  intro lp cl hlp hcl
  conv => lhs; whnf
  repeat' (first
    | (rw [cl_eq hcl (f_l00In _ _ _)]; rotate_left; exact rfl; exact rfl; conv => lhs; whnf)
    | (split <;> rename_i hh <;> (try rw [hh]) <;> conv => lhs; whnf))
  all_goals refine fin_b rfl ?_
  all_goals (clear hlp hcl; rw [Bool.eq_iff_iff]; simp [inR, okAct, -List.length_eq_zero_iff] at *; try omega)
theorem f_iValidDbAct (x : DbAct) (hl : x.Batch.length ≤ 1048576) : callL E 113 [vDbAct x] [] = some (BO (okAct x), []) := by
  refine callW (fu := Try.f113) rfl rfl (1) ?_
  intro lp cl hlp hcl
  conv => lhs; whnf
  repeat' (first
    | (rw [cl_eq hcl (f_within _ _ _)]; rotate_left; exact rfl; exact rfl; conv => lhs; whnf)
    | (split <;> rename_i hh <;> (try rw [hh]) <;> conv => lhs; whnf))
  all_goals refine fin_b rfl ?_
  all_goals (clear hlp hcl; rw [Bool.eq_iff_iff]; simp [inR, okAct, -List.length_eq_zero_iff] at *; try omega)

def pAct (a : DbAct) : Bool := !okAct a
theorem f_actClo (x : DbAct) (hl : x.Batch.length ≤ 1048576) : callL E 112 [vDbAct x] [] = some (BO (pAct x), []) := by
  refine callW (fu := Try.f112) rfl rfl (1) ?_
  intro lp cl hlp hcl
  conv => lhs; whnf
  rw [cl_eq hcl (f_iValidDbAct x hl)]
  rotate_left
  · show _ = _
    kernel_rfl
  · show _ = _
    kernel_rfl
  show _ = _
  kernel_rfl

def h_idxAct (l : List DbAct) (i : Int) : List V := ([.d (.arr (l.map rDbAct)), .clo 112 [], .dead, .dead, .dead, .dead, .dead, IN (l.map rDbAct).length, IN i] ++ List.replicate 10 .dead : List V)
theorem f_idxAct (l : List DbAct) (hl : totL totDbAct l ≤ 1048576) : callL E 166 [.d (.arr (l.map rDbAct)), .clo 112 []] [] = some (IN (idxP pAct l), []) := by
  have hln := tot_len totDbAct l
  refine callW (fu := Try.f166) rfl rfl (l.length + 1) ?_
  intro lp cl hlp hcl
  generalize hN : l.length + 1 = N
  conv => lhs; whnf
  rw [hlp]
  refine loop_rule (fun d t F => ∃ i : Nat, t = h_idxAct l i ∧ F = [] ∧ d = l.length - i ∧ i ≤ l.length ∧ ∀ j (hj : j < i) (h2 : j < l.length), pAct l[j] = false) ?_ N (l.length) _ _ (by omega) ⟨h_idxAct l 0, [], fun k => by kernel_rfl, 0, rfl, rfl, by omega, by omega, fun j hj => by omega⟩
  rintro d t F ⟨i, rfl, rfl, rfl, hi, hinv⟩ next hnext
  conv => lhs; whnf
  split
  · rename_i h
    have hlt : i < l.length := by have := of_decide_eq_true h; simp at this; omega
    have hg := get_map rDbAct l i hlt
    have hb : l[i].Batch.length ≤ 1048576 := by
      have h1 := tot_get totDbAct l i hlt
      have h2 := tot_len totRecord l[i].Batch
      have h3 : totDbAct l[i] = totL totRecord l[i].Batch := rfl
      omega
    conv => lhs; whnf
    repeat' (first
      | (rw [hg]; conv => lhs; whnf)
      | (rw [cl_eq hcl (f_actClo l[i] hb)]; rotate_left; exact rfl; exact rfl; conv => lhs; whnf)
      | (split <;> rename_i hh <;> (try rw [hh]) <;> conv => lhs; whnf))
    · rw [idxP_some hlt hh (fun j hj => hinv j hj (by omega))]
      show _ = _
      kernel_rfl
    · refine hnext (l.length - (i + 1)) _ _ (h_idxAct l (IntKind.i64.wrap ((i : Int) + 1))) [] (by omega) (fun k => by kernel_rfl) ⟨i + 1, by rw [wrap_nat i (by omega)], rfl, rfl, by omega, fun j hj h3 => if e : j = i then by subst e; exact hh else hinv j (by omega) h3⟩
  · rename_i h
    have hlt : i = l.length := by have := of_decide_eq_false h; simp at this; omega
    subst hlt
    rw [idxP_none (fun j hj => hinv j hj hj)]
    show _ = _
    kernel_rfl
theorem f_anyAct (l : List DbAct) (hl : totL totDbAct l ≤ 1048576) : callL E 111 [.d (.arr (l.map rDbAct)), .clo 112 []] [] = some (BO (l.any pAct), []) := by
  refine callW (fu := Try.f111) rfl rfl (1) ?_
  intro lp cl hlp hcl
  conv => lhs; whnf
  rw [cl_eq hcl (f_idxAct l hl)]
  rotate_left
  · show _ = _
    kernel_rfl
  · show _ = _
    kernel_rfl
  conv => lhs; whnf
  rw [← idxP_any]
  show _ = _
  kernel_rfl

def vaTrial (x : Trial) : Bool := okGeo x.Geo && (inR x.Zones 6 12 && (decide (x.Acts.length ≤ 12) && !x.Acts.any pAct))
theorem f_iTrial (x : Trial) (hl : totTrial x ≤ 1048576) : callL E 44 [vTrial x] [] = some (BO (vaTrial x), []) := by
  have hl2 : totL totDbAct x.Acts ≤ 1048576 := hl
  refine callW (fu := Try.f44) rfl rfl (1) ?_
  intro lp cl hlp hcl
  conv => lhs; whnf
  repeat' (first
    | (rw [cl_eq hcl (f_iGeo x.Geo)]; rotate_left; exact rfl; exact rfl; conv => lhs; whnf)
    | (rw [cl_eq hcl (f_within _ _ _)]; rotate_left; exact rfl; exact rfl; conv => lhs; whnf)
    | (rw [cl_eq hcl (f_anyAct x.Acts hl2)]; rotate_left; exact rfl; exact rfl; conv => lhs; whnf)
    | (split <;> rename_i hh <;> (try rw [hh]) <;> conv => lhs; whnf))
  all_goals refine fin_b rfl ?_
  all_goals (clear hlp hcl; simp [vaTrial, inR] at *; simp [*]; try (intros; omega))

def h_sTrial (i : Int) : List V := ([.dead, .bp 0 0, .dead, IN i] ++ List.replicate 30 .dead : List V)
theorem f_sTrial (x : Trial) (hl : totTrial x ≤ 1048576) : callL E 42 [vTrial x] [] = some (BO (vaTrial x), []) := by
  have hl2 : totL totDbAct x.Acts ≤ 1048576 := hl
  have hln := tot_len totDbAct x.Acts
  refine callW (fu := Try.f42) rfl rfl (x.Acts.length + 1) ?_
  intro lp cl hlp hcl
  generalize hN : x.Acts.length + 1 = N
  conv => lhs; whnf
  repeat' (first
    | (rw [cl_eq hcl (f_sGeo x.Geo)]; rotate_left; exact rfl; exact rfl; conv => lhs; whnf)
    | (rw [cl_eq hcl (f_l00In _ _ _)]; rotate_left; exact rfl; exact rfl; conv => lhs; whnf)
    | (split <;> rename_i hh <;> (try rw [hh]) <;> conv => lhs; whnf))
  rotate_right
  · have hlen : x.Acts.length ≤ 12 := by have := of_decide_eq_false hh; simp at this; omega
    rename_i _ g1 _ g2 _
    rw [hlp]
    refine loop_rule (fun d t F => ∃ i : Nat, t = h_sTrial i ∧ F = [some (.box (mapO .d (rTrial x)))] ∧ d = x.Acts.length - i ∧ i ≤ x.Acts.length ∧ ∀ j (hj : j < i) (h2 : j < x.Acts.length), pAct x.Acts[j] = false) ?_ N (x.Acts.length) _ _ (by omega) ⟨h_sTrial 0, [some (.box (mapO .d (rTrial x)))], fun k => by kernel_rfl, 0, rfl, rfl, by omega, by omega, fun j hj => by omega⟩
    rintro d t F ⟨i, rfl, rfl, rfl, hi, hinv⟩ next hnext
    conv => lhs; whnf
    split
    · rename_i h
      have hlt : i < x.Acts.length := by have := of_decide_eq_true h; simp at this; omega
      have hg := get_map rDbAct x.Acts i hlt
      have hb : x.Acts[i].Batch.length ≤ 1048576 := by
        have h1 := tot_get totDbAct x.Acts i hlt
        have h2 := tot_len totRecord x.Acts[i].Batch
        have h3 : totDbAct x.Acts[i] = totL totRecord x.Acts[i].Batch := rfl
        omega
      conv => lhs; whnf
      repeat' (first
        | (rw [hg]; conv => lhs; whnf)
        | (rw [cl_eq hcl (f_sValidDbAct x.Acts[i] hb)]; rotate_left; exact rfl; exact rfl; conv => lhs; whnf)
        | (split <;> rename_i hh <;> (try rw [hh]) <;> conv => lhs; whnf))
      · have : vaTrial x = false := by
          have : x.Acts.any pAct = true := List.any_eq_true.mpr ⟨x.Acts[i], List.getElem_mem _, by simpa [pAct] using hh⟩
          simp [vaTrial, this]
        rw [this]
        show _ = _
        kernel_rfl
      · refine hnext (x.Acts.length - (i + 1)) _ _ (h_sTrial (IntKind.i64.wrap ((i : Int) + 1))) [some (.box (mapO .d (rTrial x)))] (by omega) (fun k => by kernel_rfl) ⟨i + 1, by rw [wrap_nat i (by omega)], rfl, rfl, by omega, fun j hj h3 => if e : j = i then by subst e; simpa [pAct] using hh else hinv j (by omega) h3⟩
    · rename_i h
      have hlt : i = x.Acts.length := by have := of_decide_eq_false h; simp at this; omega
      have h4 : x.Acts.any pAct = false := List.any_eq_false.mpr fun y hy => by
        obtain ⟨j, hj, rfl⟩ := List.mem_iff_getElem.mp hy
        simpa using hinv j (by omega) hj
      have : vaTrial x = true := by
        simp at g1 g2
        simp [vaTrial, h4, g1, g2, hlen]
      rw [this]
      show _ = _
      kernel_rfl
  all_goals refine fin_b rfl ?_
  all_goals (clear hlp hcl; simp [vaTrial, inR] at *; simp [*]; try (intros; omega))

theorem f_law (x : Trial) (hk : okTrial x) : callL E 7 [vTrial x] [] = some (BO true, []) := by
  refine callW (fu := Try.f7) rfl rfl (1) ?_
  intro lp cl hlp hcl
  conv => lhs; whnf
  rw [cl_eq hcl (f_szTrial x hk 1048576 (by omega) (by omega))]
  rotate_left
  · show _ = _
    kernel_rfl
  · show _ = _
    kernel_rfl
  conv => lhs; whnf
  by_cases q : ((totTrial x : Nat) : Int) ≤ 1048576
  rotate_left
  · rw [szr_neg q]
    show _ = _
    kernel_rfl
  rw [szr_pos q]
  conv => lhs; whnf
  rw [decide_eq_false (show ¬ (1048576 - ((totTrial x : Nat) : Int) < 0) by omega)]
  conv => lhs; whnf
  repeat' (first
    | (rw [cl_eq hcl (f_toTrial x (by omega))]; rotate_left; exact rfl; exact rfl; conv => lhs; whnf)
    | (rw [cl_eq hcl (f_sTrial x (by omega))]; rotate_left; exact rfl; exact rfl; conv => lhs; whnf)
    | (rw [cl_eq hcl (f_iTrial x (by omega))]; rotate_left; exact rfl; exact rfl; conv => lhs; whnf)
    | (rw [cl_eq hcl (f_eqTrial x (by omega))]; rotate_left; exact rfl; exact rfl; conv => lhs; whnf)
    | (rw [bne_self_eq_false]; conv => lhs; whnf)
    | (rw [not_beq_self]; conv => lhs; whnf)
    | (rw [beq_self_eq_true]; conv => lhs; whnf))
  show _ = _
  kernel_rfl


open Go.ChangeShapes Go.WideShapes Go.ChangeAt Go.RowKit
theorem own : ownKnob Try.prog.godebug = none := by kernel_rfl
theorem laidOut : laidOutB Try.prog = true := by kernel_rfl
theorem lifted (os : Os) (started : os.Started) (H : Type) (enc : TypeId × Value → H) :
    ReturnsInHanded {} Try.checked os 7 .any (Rows.fnExactValidTrialSpec.pre6 enc Try.prog Try.f7 Rows.fnExactValidTrialRow.domain false) (Rows.fnExactValidTrialSpec.post enc Try.prog Try.f7 false true false false) := by
  refine returnsInHanded_of_change_sized (C := Try.checked) own started (by kernel_rfl) Try.func7
    (ChangeSpec.witness6 (enc := enc) (C := Try.checked) false ⟨#[], #[.agg #[(.int .i64 0), (.int .i64 0), (.int .i64 0), (.int .i64 0), (.slice none 0 0)]], []⟩ 8 (by kernel_rfl) (by kernel_rfl) (by kernel_rfl) (by kernel_rfl)) ?_
  intro W base args ds gs before hval0 hW hcnd hsz0 _
  have hval : ∀ (j : Nat) t v, Try.f7.params[j]? = some t → args[j]? = some v → Value.okWide Try.prog W .any base t v := hval0
  have hW' := hW
  obtain ⟨p, q, hA0, hV, rfl, hfz, hnd⟩ := hW
  have hA : DataW.TrodAll enc Try.prog W 0 (fun _ => true) true Try.f7.params.toList args.toList ds p := hA0
  rw [Try.params7] at hA hval
  obtain ⟨v0, vs0, d0, ds0, p0, q0, hargs0, rfl, rfl, h0, r0⟩ := trodAll_cons hA
  obtain ⟨rfl, rfl, rfl⟩ := trodAll_nil r0
  obtain rfl : args = #[v0] := by cases args; simp_all
  obtain ⟨rfl, rfl⟩ := trodVars_none hV
  have k0 := h0
  have lt0 : ∀ x ∈ p0, x.block < W.heap.size := by obtain ⟨m, hm⟩ := k0; exact DataW.trod_lt m _ _ _ hm
  obtain ⟨dd0, o0, e0⟩ := open_arg (ty := tyTrial) (by kernel_rfl) (hval 0 66 v0 rfl rfl) h0
  obtain ⟨x0, rfl, ok0⟩ := of_Trial o0
  refine (law_calls ok (f_law x0 ok0) (vals := #[v0]) rfl (fun i c u g1 g2 => ?_)).mono fun e W' ⟨he, bel⟩ => ?_
  · match i, g1, g2 with
    | 0, g1, g2 => simp at g1 g2; subst g1; subst g2; exact e0
  subst he
  exact ⟨_, rfl, _, _, _, [], _, [], hW', trodAll_mk1 (shut_bool Try.underlying4 _), (trodAll_cons_mk (Below.trod laidOut (by kernel_rfl) (of_decide_eq_true (by kernel_rfl)) k0 bel lt0) trodAll_mk0), rfl, bel.frame _, fun h => by cases h⟩
theorem over : Rows.fnExactValidTrialRow.holds Try.pinned (OpenSpec.ofChange Rows.fnExactValidTrialSpec) :=
  OpenClaim.holds_of_wide 7 Try.f7 rfl rfl rfl rfl rfl rfl rfl ⟨rfl, rfl, rfl, rfl, rfl⟩ rfl rfl rfl rfl rfl (by kernel_rfl) Try.func7 (by kernel_rfl)
    (of_decide_eq_true (by kernel_rfl)) (by unfold Func.isWrapper; first | (rw [if_pos (by decide +kernel)]; kernel_rfl) | (rw [if_neg (by decide +kernel)]; exact ⟨rfl, rfl⟩))
    (fun os started H enc _ => lifted os started H enc)
theorem proved : Rows.FnExactValidTrialSaid := over

end Go.Proofs.Ythpcnbjpdcpfbaa.T17
namespace Go.Proofs.Ythpcnbjpdcpfbaa
theorem fnExactValidTrial_holds : Rows.FnExactValidTrialSaid := T17.proved
end Go.Proofs.Ythpcnbjpdcpfbaa

/- FnExactInputsOf: what its functions come to, and the row; conditions: none. -/
import Derived.Test.YtcdgobimidmacaaT38
import Derived.Test.YtcdgobimidmacaaEr
import Derived.Test.YtcdgobimidmacaaRows
import Derived.WalkKit
import Derived.ProofKit
import Derived.OpenShut
import Derived.ShutString
import Derived.ChangeOld
import Derived.Below
import Derived.SizedLaws
namespace Go.Proofs.Ytcdgobimidmacaa.T38
open Go.Proofs.YtcdgobimidmacaaE
set_option maxRecDepth 100000
set_option linter.unusedVariables false
set_option linter.unusedSimpArgs false

theorem f_szTableRef (x : TableRef) (hk : okTableRef x) (left : Int) (h0 : 0 ≤ left) (h1 : left ≤ 1048576) : callL E 181 [vTableRef x, IN left] [] = some (IN (szr (totTableRef x) left), []) := by
  have hT : totTableRef x = ByteArray.size x.Low + ByteArray.size x.High := rfl
  have ⟨kId, kLevel, kZone, kPage, kPages, kLow, kHigh, kFirst, kLast, kRecords⟩ := hk
  refine callW (fu := Try.f181) rfl rfl rfl 1 ?_
  intro lp cl hlp hcl
  conv => lhs; whnf
  have hw0 : IntKind.i64.wrap (left - ((ByteArray.size x.Low : Nat) : Int)) = left - ((ByteArray.size x.Low : Nat) : Int) := by
    have := kLow; unfold okS at this; rw [IntKind.wrap_i64]; omega
  rw [hw0]
  by_cases q0 : ((ByteArray.size x.Low : Nat) : Int) ≤ left
  rotate_left
  · rw [decide_eq_true (show left - ((ByteArray.size x.Low : Nat) : Int) < 0 by omega)]
    rw [szr_neg (by omega)]
    show _ = _
    kernel_rfl
  rw [decide_eq_false (show ¬ (left - ((ByteArray.size x.Low : Nat) : Int) < 0) by omega)]
  conv => lhs; whnf
  have hw1 : IntKind.i64.wrap ((left - ((ByteArray.size x.Low : Nat) : Int)) - ((ByteArray.size x.High : Nat) : Int)) = (left - ((ByteArray.size x.Low : Nat) : Int)) - ((ByteArray.size x.High : Nat) : Int) := by
    have := kHigh; unfold okS at this; rw [IntKind.wrap_i64]; omega
  rw [hw1]
  by_cases q1 : ((ByteArray.size x.High : Nat) : Int) ≤ (left - ((ByteArray.size x.Low : Nat) : Int))
  rotate_left
  · rw [decide_eq_true (show (left - ((ByteArray.size x.Low : Nat) : Int)) - ((ByteArray.size x.High : Nat) : Int) < 0 by omega)]
    rw [szr_neg (by omega)]
    show _ = _
    kernel_rfl
  rw [decide_eq_false (show ¬ ((left - ((ByteArray.size x.Low : Nat) : Int)) - ((ByteArray.size x.High : Nat) : Int) < 0) by omega)]
  conv => lhs; whnf
  rw [szr_pos (show ((totTableRef x : Nat) : Int) ≤ left by omega), show left - ((totTableRef x : Nat) : Int) = ((left - ((ByteArray.size x.Low : Nat) : Int)) - ((ByteArray.size x.High : Nat) : Int)) by omega]
  show _ = _
  kernel_rfl

def h_szTableRefS (l : List TableRef) (c n : Int) : List V := ([.d (.arr (l.map rTableRef)), IN c, .dead, .dead, .dead, IN n] ++ List.replicate 21 .dead : List V)
theorem f_szTableRefS (l : List TableRef) (hk : okL okTableRef l) (left : Int) (h0 : 0 ≤ left) (h1 : left ≤ 1048576) : callL E 132 [.d (.arr (l.map rTableRef)), IN left] [] = some (IN (szr ((totL totTableRef) l) left), []) := by
  have hl := hk.1
  refine callW (fu := Try.f132) rfl rfl rfl (l.length + 1) ?_
  intro lp cl hlp hcl
  generalize hN : l.length + 1 = N
  conv => lhs; whnf
  have hw : IntKind.i64.wrap (left - ((l.map rTableRef).length : Int)) = left - (l.length : Int) := by rw [IntKind.wrap_i64, List.length_map]; omega
  rw [hw]
  by_cases q : (l.length : Int) ≤ left
  rotate_left
  · rw [decide_eq_true (show left - (l.length : Int) < 0 by omega), szr_neg (by unfold totL; omega)]
    show _ = _
    kernel_rfl
  rw [decide_eq_false (show ¬ (left - (l.length : Int) < 0) by omega)]
  conv => lhs; whnf
  rw [hlp]
  refine loop_rule (fun d t F => ∃ i : Nat, t = h_szTableRefS l (left - (l.length : Int) - (((l.take i).map totTableRef).sum : Nat)) i ∧ F = [] ∧ d = l.length - i ∧ i ≤ l.length ∧ ((((l.take i).map totTableRef).sum : Nat) : Int) ≤ left - l.length) ?_ N l.length _ _ (by omega) ⟨h_szTableRefS l (left - (l.length : Int)) 0, [], fun k => by kernel_rfl, 0, by simp, rfl, by omega, by omega, by simpa using (show (l.length : Int) ≤ left from q)⟩
  rintro d t F ⟨i, rfl, rfl, rfl, hi, hs⟩ next hnext
  have hq := sum_take_le totTableRef l i
  generalize hS : (((l.take i).map totTableRef).sum : Nat) = S at *
  conv => lhs; whnf
  split
  · rename_i h
    have hlt : i < l.length := by have := of_decide_eq_true h; simp at this; omega
    have hg := get_map rTableRef l i hlt
    have hn := sum_take_succ totTableRef l i hlt
    have hq1 := sum_take_le totTableRef l (i + 1)
    rw [hS] at hn
    conv => lhs; whnf
    repeat (rw [hg]; conv => lhs; whnf)
    rw [cl_eq hcl (f_szTableRef l[i] (hk.2 _ (List.getElem_mem _)) (left - l.length - S) (by omega) (by omega))]
    rotate_left
    · show _ = _
      kernel_rfl
    · show _ = _
      kernel_rfl
    by_cases q2 : ((totTableRef l[i] : Nat) : Int) ≤ left - l.length - S
    rotate_left
    · rw [szr_neg q2, szr_neg (by unfold totL; omega)]
      show _ = _
      kernel_rfl
    rw [szr_pos q2]
    conv => lhs; whnf
    rw [decide_eq_false (show ¬ ((left - (l.length : Int) - (S : Int) - ((totTableRef l[i] : Nat) : Int)) < 0) by omega)]
    conv => lhs; whnf
    refine hnext (l.length - (i + 1)) _ _ (h_szTableRefS l (left - (l.length : Int) - (S : Int) - ((totTableRef l[i] : Nat) : Int)) (IntKind.i64.wrap ((i : Int) + 1))) [] (by omega) (fun k => by kernel_rfl) ⟨i + 1, by rw [wrap_nat i (by omega), show left - (l.length : Int) - ((((l.take (i + 1)).map totTableRef).sum : Nat) : Int) = (left - (l.length : Int) - (S : Int) - ((totTableRef l[i] : Nat) : Int)) by omega], rfl, rfl, by omega, by omega⟩
  · rename_i h
    have hlt : i = l.length := by have := of_decide_eq_false h; simp at this; omega
    subst hlt
    rw [List.take_length] at hS
    rw [szr_pos (by unfold totL; omega), show left - ((totL totTableRef l : Nat) : Int) = left - (l.length : Int) - (S : Int) by unfold totL; omega]
    show _ = _
    kernel_rfl

theorem f_szVersion (x : Version) (hk : okVersion x) (left : Int) (h0 : 0 ≤ left) (h1 : left ≤ 1048576) : callL E 60 [vVersion x, IN left] [] = some (IN (szr (totVersion x) left), []) := by
  have hT : totVersion x = (totL totTableRef) x.Tables := rfl
  have ⟨kNextId, kLogZone, kLogSeq, kTables⟩ := hk
  refine callW (fu := Try.f60) rfl rfl rfl 1 ?_
  intro lp cl hlp hcl
  conv => lhs; whnf
  rw [cl_eq hcl (f_szTableRefS x.Tables kTables (left) (by omega) (by omega))]
  rotate_left
  · show _ = _
    kernel_rfl
  · show _ = _
    kernel_rfl
  by_cases q0 : (((totL totTableRef) x.Tables : Nat) : Int) ≤ left
  rotate_left
  · rw [szr_neg q0, szr_neg (by omega)]
    show _ = _
    kernel_rfl
  rw [szr_pos q0]
  conv => lhs; whnf
  rw [decide_eq_false (show ¬ (left - (((totL totTableRef) x.Tables : Nat) : Int) < 0) by omega)]
  conv => lhs; whnf
  rw [szr_pos (show ((totVersion x : Nat) : Int) ≤ left by omega), show left - ((totVersion x : Nat) : Int) = (left - (((totL totTableRef) x.Tables : Nat) : Int)) by omega]
  show _ = _
  kernel_rfl

theorem f_toTableRef (x : TableRef) (ht : totTableRef x ≤ 1048576) : callL E 184 [vTableRef x] [] = some (vTableRef x, []) := by
  have hT : totTableRef x = ByteArray.size x.Low + ByteArray.size x.High := rfl
  refine callW (fu := Try.f184) rfl rfl rfl 1 ?_
  intro lp cl hlp hcl
  show _ = _
  kernel_rfl

def h_toTableRefS (l : List TableRef) (n : Int) : List V := ([.d (.arr (l.map rTableRef)), .dead, .dead, .sl 0, IN n] ++ List.replicate 18 .dead : List V)
def z_toTableRefS : List D := [.lit (.int .i64 0), .lit (.int .i64 0), .lit (.int .i64 0), .lit (.int .i64 0), .lit (.int .i64 0), .lit (.string ⟨#[]⟩), .lit (.string ⟨#[]⟩), .lit (.int .i64 0), .lit (.int .i64 0), .lit (.int .i64 0)]
theorem f_toTableRefS (l : List TableRef) (ht : (totL totTableRef) l ≤ 1048576) : callL E 135 [.d (.arr (l.map rTableRef))] [] = some (.sl 0, [some (.arr 170 10 (l.map rTableRef))]) := by
  have hl : l.length ≤ 1048576 := by unfold totL at ht; omega
  refine callW (fu := Try.f135) rfl rfl rfl (l.length + 1) ?_
  intro lp cl hlp hcl
  generalize hN : l.length + 1 = N
  conv => lhs; whnf
  rw [mkOk_nat (l.map rTableRef).length 96 10 (by simp; omega) rfl rfl]
  conv => lhs; whnf
  rw [hlp]
  refine loop_rule (fun d t F => ∃ i : Nat, t = h_toTableRefS l i ∧ F = [some (.arr 170 10 ((l.take i).map rTableRef ++ List.replicate (l.length - i) z_toTableRefS))] ∧ d = l.length - i ∧ i ≤ l.length) ?_ N l.length _ _ (by omega) ⟨h_toTableRefS l 0, [some (.arr 170 10 (List.replicate (l.map rTableRef).length z_toTableRefS))], fun k => by kernel_rfl, 0, rfl, by simp, by omega, by omega⟩
  rintro d t F ⟨i, rfl, rfl, rfl, hi⟩ next hnext
  conv => lhs; whnf
  split
  · rename_i h
    have hlt : i < l.length := by have := of_decide_eq_true h; simp at this; omega
    have hg := get_map rTableRef l i hlt
    conv => lhs; whnf
    repeat (rw [hg]; conv => lhs; whnf)
    rw [cl_eq hcl (f_toTableRef l[i] (Nat.le_trans (tot_get totTableRef l i hlt) ht))]
    rotate_left
    · show _ = _
      kernel_rfl
    · show _ = _
      kernel_rfl
    conv => lhs; whnf
    have hq := get_row rTableRef l z_toTableRefS i hlt
    repeat (rw [hq]; conv => lhs; whnf)
    refine hnext (l.length - (i + 1)) _ _ (h_toTableRefS l (IntKind.i64.wrap ((i : Int) + 1))) [some (.arr 170 10 (((l.take i).map rTableRef ++ List.replicate (l.length - i) z_toTableRefS).set ((i : Nat) : Int).toNat (rTableRef l[i])))] (by omega) (fun k => by kernel_rfl) ⟨i + 1, by rw [wrap_nat i (by omega)], by rw [take_row rTableRef l z_toTableRefS i hlt], rfl, by omega⟩
  · rename_i h
    have hlt : i = l.length := by have := of_decide_eq_false h; simp at this; omega
    conv => lhs; whnf
    subst hlt
    rw [List.take_length, Nat.sub_self, List.replicate_zero, List.append_nil]
    show _ = _
    kernel_rfl

abbrev oVersion (x : Version) : V := .agg [.d (dI x.NextId), .d (dI x.LogZone), .d (dI x.LogSeq), .sl 0]
abbrev FVersion (x : Version) : Fo := [some (.arr 170 10 (x.Tables.map rTableRef))]
theorem f_toVersion (x : Version) (ht : totVersion x ≤ 1048576) : callL E 62 [vVersion x] [] = some (oVersion x, FVersion x) := by
  have hT : totVersion x = (totL totTableRef) x.Tables := rfl
  refine callW (fu := Try.f62) rfl rfl rfl 1 ?_
  intro lp cl hlp hcl
  conv => lhs; whnf
  rw [cl_eq hcl (f_toTableRefS x.Tables (by omega))]
  rotate_left
  · show _ = _
    kernel_rfl
  · show _ = _
    kernel_rfl
  show _ = _
  kernel_rfl

theorem f_eqTableRef (x : TableRef) (ht : totTableRef x ≤ 1048576) : callL E 158 [vTableRef x, vTableRef x] [] = some (BO true, []) := by
  have hT : totTableRef x = ByteArray.size x.Low + ByteArray.size x.High := rfl
  refine callW (fu := Try.f158) rfl rfl rfl 1 ?_
  intro lp cl hlp hcl
  conv => lhs; whnf
  first | rw [bne_self_eq_false] | rw [not_beq_self] | rw [beq_self_eq_true]
  conv => lhs; whnf
  first | rw [bne_self_eq_false] | rw [not_beq_self] | rw [beq_self_eq_true]
  conv => lhs; whnf
  first | rw [bne_self_eq_false] | rw [not_beq_self] | rw [beq_self_eq_true]
  conv => lhs; whnf
  first | rw [bne_self_eq_false] | rw [not_beq_self] | rw [beq_self_eq_true]
  conv => lhs; whnf
  first | rw [bne_self_eq_false] | rw [not_beq_self] | rw [beq_self_eq_true]
  conv => lhs; whnf
  first | rw [bne_self_eq_false] | rw [not_beq_self] | rw [beq_self_eq_true]
  conv => lhs; whnf
  first | rw [bne_self_eq_false] | rw [not_beq_self] | rw [beq_self_eq_true]
  conv => lhs; whnf
  first | rw [bne_self_eq_false] | rw [not_beq_self] | rw [beq_self_eq_true]
  conv => lhs; whnf
  first | rw [bne_self_eq_false] | rw [not_beq_self] | rw [beq_self_eq_true]
  conv => lhs; whnf
  first | rw [bne_self_eq_false] | rw [not_beq_self] | rw [beq_self_eq_true]
  show _ = _
  kernel_rfl

def h_eqTableRefS (l : List TableRef) (n : Int) : List V := ([.d (.arr (l.map rTableRef)), .d (.arr (l.map rTableRef)), .dead, .dead, .dead, IN n] ++ List.replicate 21 .dead : List V)
theorem f_eqTableRefS (l : List TableRef) (ht : (totL totTableRef) l ≤ 1048576) : callL E 77 [.d (.arr (l.map rTableRef)), .d (.arr (l.map rTableRef))] [] = some (BO true, []) := by
  have hl : l.length ≤ 1048576 := by unfold totL at ht; omega
  refine callW (fu := Try.f77) rfl rfl rfl (l.length + 1) ?_
  intro lp cl hlp hcl
  generalize hN : l.length + 1 = N
  conv => lhs; whnf
  first | rw [bne_self_eq_false] | rw [not_beq_self] | rw [beq_self_eq_true]
  conv => lhs; whnf
  rw [hlp]
  refine loop_rule (fun d t F => ∃ i : Nat, t = h_eqTableRefS l i ∧ F = [] ∧ d = l.length - i ∧ i ≤ l.length) ?_ N l.length _ _ (by omega) ⟨h_eqTableRefS l 0, [], fun k => by kernel_rfl, 0, rfl, rfl, by omega, by omega⟩
  rintro d t F ⟨i, rfl, rfl, rfl, hi⟩ next hnext
  conv => lhs; whnf
  split
  · rename_i h
    have hlt : i < l.length := by have := of_decide_eq_true h; simp at this; omega
    have hg := get_map rTableRef l i hlt
    conv => lhs; whnf
    repeat (rw [hg]; conv => lhs; whnf)
    rw [cl_eq hcl (f_eqTableRef l[i] (Nat.le_trans (tot_get totTableRef l i hlt) ht))]
    rotate_left
    · show _ = _
      kernel_rfl
    · show _ = _
      kernel_rfl
    conv => lhs; whnf
    refine hnext (l.length - (i + 1)) _ _ (h_eqTableRefS l (IntKind.i64.wrap ((i : Int) + 1))) [] (by omega) (fun k => by kernel_rfl) ⟨i + 1, by rw [wrap_nat i (by omega)], rfl, rfl, by omega⟩
  · rename_i h
    show _ = _
    kernel_rfl

theorem f_eqVersion (x : Version) (ht : totVersion x ≤ 1048576) : callL E 64 [vVersion x, vVersion x] [] = some (BO true, []) := by
  have hT : totVersion x = (totL totTableRef) x.Tables := rfl
  refine callW (fu := Try.f64) rfl rfl rfl 1 ?_
  intro lp cl hlp hcl
  conv => lhs; whnf
  first | rw [bne_self_eq_false] | rw [not_beq_self] | rw [beq_self_eq_true]
  conv => lhs; whnf
  first | rw [bne_self_eq_false] | rw [not_beq_self] | rw [beq_self_eq_true]
  conv => lhs; whnf
  first | rw [bne_self_eq_false] | rw [not_beq_self] | rw [beq_self_eq_true]
  conv => lhs; whnf
  rw [cl_eq hcl (f_eqTableRefS x.Tables (by omega))]
  rotate_left
  · show _ = _
    kernel_rfl
  · show _ = _
    kernel_rfl
  show _ = _
  kernel_rfl

/-- A number's digits, and a mark's text. -/
def dig (k : Int) : ByteArray := bytesOf [[.lit (.int .u8 (IntKind.u8.wrap (IntKind.i64.wrap (48 + Int.tmod k 10))))]]
def mTx : Nat → Int → ByteArray → ByteArray
  | 0, _, out => out
  | n + 1, k, out => match decide (k > 0) with
    | true => mTx n (IntKind.i64.wrap (Int.tdiv k 10)) (dig k ++ out)
    | false => out
def mText (k : Int) : ByteArray := match decide (k ≤ 0) with
  | true => ⟨#[109, 48]⟩
  | false => ⟨#[109]⟩ ++ mTx (k.toNat + 1) k ⟨#[]⟩
theorem add_str (ty : Nat) (x y : ByteArray) (h : x.size + y.size ≤ 9223372036854775807) : runPure (Go.binOp .add ty (.string x) (.string y)) = some (.string (x ++ y)) := by
  have hm : ¬ (((x.size + y.size : Nat) : Int) > IntKind.i64.max) := by
    rw [show IntKind.i64.max = 9223372036854775807 from by decide]; omega
  unfold Go.binOp Op.stringOp
  simp only [hm, if_false]
  rfl
theorem dig_size (k : Int) : (dig k).size = 1 := rfl
def h_mT (k : Int) (out : ByteArray) : List V := ([IN k, .dead, .dead, ST out] ++ List.replicate 16 .dead : List V)
theorem f_markText (k : Int) (h0 : 0 ≤ k) (h1 : k ≤ 2251799813685248) : callL E 159 [IN k] [] = some (ST (mText k), []) := by
  unfold mText
  refine callW (fu := Try.f159) rfl rfl rfl (k.toNat + 2) ?_
  intro lp cl hlp hcl
  generalize hN : k.toNat + 2 = N
  conv => lhs; whnf
  cases c : decide (k ≤ 0)
  rotate_left
  · show _ = _
    kernel_rfl
  conv => lhs; whnf
  have hk : 0 < k := by have := of_decide_eq_false c; omega
  try rw [hlp]
  refine loop_rule (fun d t F => ∃ (n : Nat) (k' : Int) (out : ByteArray), t = h_mT k' out ∧ F = [] ∧ d = k'.toNat ∧ 0 ≤ k' ∧ k' ≤ 2251799813685248 ∧ out.size + k'.toNat ≤ 2251799813685248 ∧ k'.toNat < n ∧ mTx n k' out = mTx (k.toNat + 1) k ⟨#[]⟩) ?_ N k.toNat _ _ (by omega) ⟨h_mT k ⟨#[]⟩, [], fun k => by kernel_rfl, k.toNat + 1, k, ⟨#[]⟩, rfl, rfl, rfl, h0, h1, by show 0 + k.toNat ≤ _; omega, by omega, rfl⟩
  rintro d t F ⟨n, k', out, rfl, rfl, rfl, b0, b1, b2, b3, b4⟩ next hnext
  obtain ⟨n, rfl⟩ : ∃ m, n = m + 1 := ⟨n - 1, by omega⟩
  cases c' : decide (k' > 0)
  · rw [← b4, show mTx (n + 1) k' out = out by simp only [mTx, c']]
    conv => lhs; whnf
    rw [c']
    conv => lhs; whnf
    rw [add_str _ _ _ (by show 1 + out.size ≤ _; omega)]
    show _ = _
    kernel_rfl
  · have e1 : mTx (n + 1) k' out = mTx n (IntKind.i64.wrap (Int.tdiv k' 10)) (dig k' ++ out) := by simp only [mTx, c']
    conv => lhs; whnf
    rw [c']
    conv => lhs; whnf
    rw [add_str _ _ _ (by show 1 + out.size ≤ _; omega)]
    conv => lhs; whnf
    have hp : 0 < k' := of_decide_eq_true c'
    have hw : IntKind.i64.wrap (Int.tdiv k' 10) = Int.tdiv k' 10 := by
      have := Int.tdiv_eq_ediv_of_nonneg (a := k') (b := 10) (by omega)
      rw [this, wrap_sm _ (by omega) (by omega)]
    have hq := Int.tdiv_eq_ediv_of_nonneg (a := k') (b := 10) (by omega)
    have q0 : 0 ≤ Int.tdiv k' 10 := by rw [hq]; omega
    have q1 : Int.tdiv k' 10 < k' := by rw [hq]; omega
    rw [hw]
    rw [hw] at e1
    generalize Int.tdiv k' 10 = q at *
    refine hnext q.toNat _ _ (h_mT q (dig k' ++ out)) [] (by omega) (fun k => by kernel_rfl) ⟨n, q, dig k' ++ out, rfl, rfl, rfl, q0, by omega, ?_, by omega, by rw [← b4, e1]⟩
    rw [ByteArray.size_append, dig_size]
    omega

def mkTableRef (k : Int) : TableRef := ⟨(k), (k + 1), (k + 2), (k + 3), (k + 4), (mText (k + 5)), (mText (k + 6)), (k + 7), (k + 8), (k + 9)⟩
def mksTableRef (k : Int) (n : Nat) : List TableRef := (List.range n).map fun (j : Nat) => mkTableRef (k + 10 * (j : Int))
theorem mksTableRef_succ (k : Int) (n : Nat) : mksTableRef k (n + 1) = mksTableRef k n ++ [mkTableRef (k + 10 * (n : Int))] := by unfold mksTableRef; rw [List.range_succ, List.map_append]; rfl
theorem mksTableRef_len (k : Int) (n : Nat) : (mksTableRef k n).length = n := by simp [mksTableRef]

def h_markTableRefS (k n : Int) : List V := ([.sl 0, IN k, .dead, .dead, .dead, IN n] ++ List.replicate 79 .dead : List V)
set_option maxHeartbeats 8000000 in
theorem f_markTableRefS (l : List TableRef) (k : Int) (hl : l.length ≤ 1048576) (h0 : 0 ≤ k) (h1 : k ≤ 1125899906842624) : callL E 79 [.sl 0, IN k] [some (.arr 170 10 (l.map rTableRef))] = some (IN (k + 10 * (l.length : Int)), [some (.arr 170 10 ((mksTableRef k l.length).map rTableRef))]) := by
  refine callW (fu := Try.f79) rfl rfl rfl (l.length + 1) ?_
  intro lp cl hlp hcl
  generalize hN : l.length + 1 = N
  conv => lhs; whnf
  rw [hlp]
  refine loop_rule (fun d t F => ∃ (i : Nat) (r : List TableRef), t = h_markTableRefS (k + 10 * (i : Int)) i ∧ F = [some (.arr 170 10 ((mksTableRef k i).map rTableRef ++ r.map rTableRef))] ∧ d = l.length - i ∧ i + r.length = l.length) ?_ N l.length _ _ (by omega) ⟨h_markTableRefS k 0, [some (.arr 170 10 (l.map rTableRef))], fun k => by kernel_rfl, 0, l, by simp, rfl, by omega, by omega⟩
  rintro d t F ⟨i, r, rfl, rfl, rfl, hi⟩ next hnext
  have hA : ((mksTableRef k i).map rTableRef).length = i := by rw [List.length_map, mksTableRef_len]
  have hs := mksTableRef_succ k i
  have hRl : ((mksTableRef k i).map rTableRef ++ r.map rTableRef).length = l.length := by rw [List.length_append, hA, List.length_map]; omega
  conv => lhs; whnf
  rw [hRl]
  split
  · rename_i h
    have hlt : i < l.length := by have := of_decide_eq_true h; omega
    obtain ⟨a, r, rfl⟩ : ∃ a r', r = a :: r' := by
      cases r with
      | nil => simp at hi; omega
      | cons a r' => exact ⟨a, r', rfl⟩
    rw [List.length_cons] at hi
    rw [List.map_cons]
    generalize hK : k + 10 * (i : Int) = K at *
    generalize hAA : (mksTableRef k i).map rTableRef = A at *
    generalize hB : r.map rTableRef = B at *
    have hm5 := f_markText (K + 5) (by omega) (by omega)
    have hm6 := f_markText (K + 6) (by omega) (by omega)
    have hw0 : IntKind.i64.wrap (K + 1) = K + 1 := wrap_sm _ (by omega) (by omega)
    have hw1 : IntKind.i64.wrap (K + 2) = K + 2 := wrap_sm _ (by omega) (by omega)
    have hw2 : IntKind.i64.wrap (K + 3) = K + 3 := wrap_sm _ (by omega) (by omega)
    have hw3 : IntKind.i64.wrap (K + 4) = K + 4 := wrap_sm _ (by omega) (by omega)
    have hw4 : IntKind.i64.wrap (K + 5) = K + 5 := wrap_sm _ (by omega) (by omega)
    have hw5 : IntKind.i64.wrap (K + 6) = K + 6 := wrap_sm _ (by omega) (by omega)
    have hw6 : IntKind.i64.wrap (K + 7) = K + 7 := wrap_sm _ (by omega) (by omega)
    have hw7 : IntKind.i64.wrap (K + 8) = K + 8 := wrap_sm _ (by omega) (by omega)
    have hw8 : IntKind.i64.wrap (K + 9) = K + 9 := wrap_sm _ (by omega) (by omega)
    have hw9 : IntKind.i64.wrap (K + 10) = K + 10 := wrap_sm _ (by omega) (by omega)
    have hx1 : IntKind.i64.wrap (K + 1 + 1) = K + 2 := by rw [show K + 1 + 1 = K + 2 by omega]; exact hw1
    have hx2 : IntKind.i64.wrap (K + 2 + 1) = K + 3 := by rw [show K + 2 + 1 = K + 3 by omega]; exact hw2
    have hx3 : IntKind.i64.wrap (K + 3 + 1) = K + 4 := by rw [show K + 3 + 1 = K + 4 by omega]; exact hw3
    have hx4 : IntKind.i64.wrap (K + 4 + 1) = K + 5 := by rw [show K + 4 + 1 = K + 5 by omega]; exact hw4
    have hx5 : IntKind.i64.wrap (K + 5 + 1) = K + 6 := by rw [show K + 5 + 1 = K + 6 by omega]; exact hw5
    have hx6 : IntKind.i64.wrap (K + 6 + 1) = K + 7 := by rw [show K + 6 + 1 = K + 7 by omega]; exact hw6
    have hx7 : IntKind.i64.wrap (K + 7 + 1) = K + 8 := by rw [show K + 7 + 1 = K + 8 by omega]; exact hw7
    have hx8 : IntKind.i64.wrap (K + 8 + 1) = K + 9 := by rw [show K + 8 + 1 = K + 9 by omega]; exact hw8
    have hx9 : IntKind.i64.wrap (K + 9 + 1) = K + 10 := by rw [show K + 9 + 1 = K + 10 by omega]; exact hw9
    conv => lhs; whnf
    rw [get_mid hA]
    conv => lhs; whnf
    try (rw [get_mid hA]; conv => lhs; whnf)
    try rw [hw0]
    erw [set_mid (r := [dI (a.Id), dI (a.Level), dI (a.Zone), dI (a.Page), dI (a.Pages), dS (a.Low), dS (a.High), dI (a.First), dI (a.Last), dI (a.Records)]) (r' := [dI ((K)), dI (a.Level), dI (a.Zone), dI (a.Page), dI (a.Pages), dS (a.Low), dS (a.High), dI (a.First), dI (a.Last), dI (a.Records)]) hA]
    conv => lhs; whnf
    rw [get_mid hA]
    conv => lhs; whnf
    try (rw [get_mid hA]; conv => lhs; whnf)
    try rw [hx1]
    erw [set_mid (r := [dI ((K)), dI (a.Level), dI (a.Zone), dI (a.Page), dI (a.Pages), dS (a.Low), dS (a.High), dI (a.First), dI (a.Last), dI (a.Records)]) (r' := [dI ((K)), dI ((K + 1)), dI (a.Zone), dI (a.Page), dI (a.Pages), dS (a.Low), dS (a.High), dI (a.First), dI (a.Last), dI (a.Records)]) hA]
    conv => lhs; whnf
    rw [get_mid hA]
    conv => lhs; whnf
    try (rw [get_mid hA]; conv => lhs; whnf)
    try rw [hx2]
    erw [set_mid (r := [dI ((K)), dI ((K + 1)), dI (a.Zone), dI (a.Page), dI (a.Pages), dS (a.Low), dS (a.High), dI (a.First), dI (a.Last), dI (a.Records)]) (r' := [dI ((K)), dI ((K + 1)), dI ((K + 2)), dI (a.Page), dI (a.Pages), dS (a.Low), dS (a.High), dI (a.First), dI (a.Last), dI (a.Records)]) hA]
    conv => lhs; whnf
    rw [get_mid hA]
    conv => lhs; whnf
    try (rw [get_mid hA]; conv => lhs; whnf)
    try rw [hx3]
    erw [set_mid (r := [dI ((K)), dI ((K + 1)), dI ((K + 2)), dI (a.Page), dI (a.Pages), dS (a.Low), dS (a.High), dI (a.First), dI (a.Last), dI (a.Records)]) (r' := [dI ((K)), dI ((K + 1)), dI ((K + 2)), dI ((K + 3)), dI (a.Pages), dS (a.Low), dS (a.High), dI (a.First), dI (a.Last), dI (a.Records)]) hA]
    conv => lhs; whnf
    rw [get_mid hA]
    conv => lhs; whnf
    try (rw [get_mid hA]; conv => lhs; whnf)
    try rw [hx4]
    erw [set_mid (r := [dI ((K)), dI ((K + 1)), dI ((K + 2)), dI ((K + 3)), dI (a.Pages), dS (a.Low), dS (a.High), dI (a.First), dI (a.Last), dI (a.Records)]) (r' := [dI ((K)), dI ((K + 1)), dI ((K + 2)), dI ((K + 3)), dI ((K + 4)), dS (a.Low), dS (a.High), dI (a.First), dI (a.Last), dI (a.Records)]) hA]
    conv => lhs; whnf
    rw [cl_eq hcl hm5]
    rotate_left
    · show _ = _
      show _ = _
      kernel_rfl
    · show _ = _
      show _ = _
      kernel_rfl
    conv => lhs; whnf
    rw [get_mid hA]
    conv => lhs; whnf
    try (rw [get_mid hA]; conv => lhs; whnf)
    try rw [hx5]
    erw [set_mid (r := [dI ((K)), dI ((K + 1)), dI ((K + 2)), dI ((K + 3)), dI ((K + 4)), dS (a.Low), dS (a.High), dI (a.First), dI (a.Last), dI (a.Records)]) (r' := [dI ((K)), dI ((K + 1)), dI ((K + 2)), dI ((K + 3)), dI ((K + 4)), dS ((mText (K + 5))), dS (a.High), dI (a.First), dI (a.Last), dI (a.Records)]) hA]
    conv => lhs; whnf
    rw [cl_eq hcl hm6]
    rotate_left
    · show _ = _
      show _ = _
      kernel_rfl
    · show _ = _
      show _ = _
      kernel_rfl
    conv => lhs; whnf
    rw [get_mid hA]
    conv => lhs; whnf
    try (rw [get_mid hA]; conv => lhs; whnf)
    try rw [hx6]
    erw [set_mid (r := [dI ((K)), dI ((K + 1)), dI ((K + 2)), dI ((K + 3)), dI ((K + 4)), dS ((mText (K + 5))), dS (a.High), dI (a.First), dI (a.Last), dI (a.Records)]) (r' := [dI ((K)), dI ((K + 1)), dI ((K + 2)), dI ((K + 3)), dI ((K + 4)), dS ((mText (K + 5))), dS ((mText (K + 6))), dI (a.First), dI (a.Last), dI (a.Records)]) hA]
    conv => lhs; whnf
    rw [get_mid hA]
    conv => lhs; whnf
    try (rw [get_mid hA]; conv => lhs; whnf)
    try rw [hx7]
    erw [set_mid (r := [dI ((K)), dI ((K + 1)), dI ((K + 2)), dI ((K + 3)), dI ((K + 4)), dS ((mText (K + 5))), dS ((mText (K + 6))), dI (a.First), dI (a.Last), dI (a.Records)]) (r' := [dI ((K)), dI ((K + 1)), dI ((K + 2)), dI ((K + 3)), dI ((K + 4)), dS ((mText (K + 5))), dS ((mText (K + 6))), dI ((K + 7)), dI (a.Last), dI (a.Records)]) hA]
    conv => lhs; whnf
    rw [get_mid hA]
    conv => lhs; whnf
    try (rw [get_mid hA]; conv => lhs; whnf)
    try rw [hx8]
    erw [set_mid (r := [dI ((K)), dI ((K + 1)), dI ((K + 2)), dI ((K + 3)), dI ((K + 4)), dS ((mText (K + 5))), dS ((mText (K + 6))), dI ((K + 7)), dI (a.Last), dI (a.Records)]) (r' := [dI ((K)), dI ((K + 1)), dI ((K + 2)), dI ((K + 3)), dI ((K + 4)), dS ((mText (K + 5))), dS ((mText (K + 6))), dI ((K + 7)), dI ((K + 8)), dI (a.Records)]) hA]
    conv => lhs; whnf
    rw [get_mid hA]
    conv => lhs; whnf
    try (rw [get_mid hA]; conv => lhs; whnf)
    try rw [hx9]
    erw [set_mid (r := [dI ((K)), dI ((K + 1)), dI ((K + 2)), dI ((K + 3)), dI ((K + 4)), dS ((mText (K + 5))), dS ((mText (K + 6))), dI ((K + 7)), dI ((K + 8)), dI (a.Records)]) (r' := [dI ((K)), dI ((K + 1)), dI ((K + 2)), dI ((K + 3)), dI ((K + 4)), dS ((mText (K + 5))), dS ((mText (K + 6))), dI ((K + 7)), dI ((K + 8)), dI ((K + 9))]) hA]
    refine hnext (l.length - (i + 1)) _ _ (h_markTableRefS (K + 10) (IntKind.i64.wrap ((i : Int) + 1))) [some (.arr 170 10 (A ++ rTableRef (mkTableRef K) :: B))] (by omega) (fun k => by kernel_rfl) ⟨i + 1, r, ?_, ?_, rfl, by omega⟩
    · rw [wrap_nat i (by omega), ← hK, show k + 10 * ((i + 1 : Nat) : Int) = k + 10 * (i : Int) + 10 by omega]
    · rw [hs, List.map_append, List.append_assoc, hAA, hB]
      rfl
  · rename_i h
    have hlt : i = l.length := by have := of_decide_eq_false h; omega
    obtain rfl : r = [] := List.eq_nil_of_length_eq_zero (by omega)
    rw [List.map_nil, List.append_nil, hlt]
    show _ = _
    kernel_rfl

def h_heldTableRefS (k : Int) (m : Nat) (c n : Int) : List V := ([.d (.arr ((mksTableRef k m).map rTableRef)), IN c, .dead, .dead, .dead, IN n] ++ List.replicate 99 .dead : List V)
set_option maxHeartbeats 8000000 in
theorem f_heldTableRefS (m : Nat) (k : Int) (hl : m ≤ 1048576) (h0 : 0 ≤ k) (h1 : k ≤ 1125899906842624) : callL E 80 [.d (.arr ((mksTableRef k m).map rTableRef)), IN k] [] = some (IN (k + 10 * (m : Int)), []) := by
  have hL := mksTableRef_len k m
  refine callW (fu := Try.f80) rfl rfl rfl (m + 1) ?_
  intro lp cl hlp hcl
  generalize hN : m + 1 = N
  conv => lhs; whnf
  rw [hlp]
  refine loop_rule (fun d t F => ∃ i : Nat, t = h_heldTableRefS k m (k + 10 * (i : Int)) i ∧ F = [] ∧ d = m - i ∧ i ≤ m) ?_ N m _ _ (by omega) ⟨h_heldTableRefS k m k 0, [], fun k => by kernel_rfl, 0, by simp, rfl, by omega, by omega⟩
  rintro d t F ⟨i, rfl, rfl, rfl, hi⟩ next hnext
  conv => lhs; whnf
  split
  · rename_i h
    have hlt : i < (mksTableRef k m).length := by have := of_decide_eq_true h; simp at this; omega
    have hg := get_map rTableRef (mksTableRef k m) i hlt
    have hv : (mksTableRef k m)[i] = mkTableRef (k + 10 * (i : Int)) := by simp [mksTableRef]
    rw [hv] at hg
    generalize hK : k + 10 * (i : Int) = K at *
    rw [show mkTableRef K = ⟨(K), (K + 1), (K + 2), (K + 3), (K + 4), (mText (K + 5)), (mText (K + 6)), (K + 7), (K + 8), (K + 9)⟩ from rfl] at hg
    replace hg : ((mksTableRef k m).map rTableRef)[((i : Nat) : Int).toNat]? = some [dI ((K)), dI ((K + 1)), dI ((K + 2)), dI ((K + 3)), dI ((K + 4)), dS ((mText (K + 5))), dS ((mText (K + 6))), dI ((K + 7)), dI ((K + 8)), dI ((K + 9))] := hg
    have hm5 := f_markText (K + 5) (by omega) (by omega)
    have hm6 := f_markText (K + 6) (by omega) (by omega)
    have hw0 : IntKind.i64.wrap (K + 1) = K + 1 := wrap_sm _ (by omega) (by omega)
    have hw1 : IntKind.i64.wrap (K + 2) = K + 2 := wrap_sm _ (by omega) (by omega)
    have hw2 : IntKind.i64.wrap (K + 3) = K + 3 := wrap_sm _ (by omega) (by omega)
    have hw3 : IntKind.i64.wrap (K + 4) = K + 4 := wrap_sm _ (by omega) (by omega)
    have hw4 : IntKind.i64.wrap (K + 5) = K + 5 := wrap_sm _ (by omega) (by omega)
    have hw5 : IntKind.i64.wrap (K + 6) = K + 6 := wrap_sm _ (by omega) (by omega)
    have hw6 : IntKind.i64.wrap (K + 7) = K + 7 := wrap_sm _ (by omega) (by omega)
    have hw7 : IntKind.i64.wrap (K + 8) = K + 8 := wrap_sm _ (by omega) (by omega)
    have hw8 : IntKind.i64.wrap (K + 9) = K + 9 := wrap_sm _ (by omega) (by omega)
    have hw9 : IntKind.i64.wrap (K + 10) = K + 10 := wrap_sm _ (by omega) (by omega)
    have hx1 : IntKind.i64.wrap (K + 1 + 1) = K + 2 := by rw [show K + 1 + 1 = K + 2 by omega]; exact hw1
    have hx2 : IntKind.i64.wrap (K + 2 + 1) = K + 3 := by rw [show K + 2 + 1 = K + 3 by omega]; exact hw2
    have hx3 : IntKind.i64.wrap (K + 3 + 1) = K + 4 := by rw [show K + 3 + 1 = K + 4 by omega]; exact hw3
    have hx4 : IntKind.i64.wrap (K + 4 + 1) = K + 5 := by rw [show K + 4 + 1 = K + 5 by omega]; exact hw4
    have hx5 : IntKind.i64.wrap (K + 5 + 1) = K + 6 := by rw [show K + 5 + 1 = K + 6 by omega]; exact hw5
    have hx6 : IntKind.i64.wrap (K + 6 + 1) = K + 7 := by rw [show K + 6 + 1 = K + 7 by omega]; exact hw6
    have hx7 : IntKind.i64.wrap (K + 7 + 1) = K + 8 := by rw [show K + 7 + 1 = K + 8 by omega]; exact hw7
    have hx8 : IntKind.i64.wrap (K + 8 + 1) = K + 9 := by rw [show K + 8 + 1 = K + 9 by omega]; exact hw8
    have hx9 : IntKind.i64.wrap (K + 9 + 1) = K + 10 := by rw [show K + 9 + 1 = K + 10 by omega]; exact hw9
    conv => lhs; whnf
    repeat' (first
      | (rw [hg]; conv => lhs; whnf)
      | (rw [hw0]; conv => lhs; whnf)
      | (rw [hx1]; conv => lhs; whnf)
      | (rw [hx2]; conv => lhs; whnf)
      | (rw [hx3]; conv => lhs; whnf)
      | (rw [hx4]; conv => lhs; whnf)
      | (rw [hx5]; conv => lhs; whnf)
      | (rw [hx6]; conv => lhs; whnf)
      | (rw [hx7]; conv => lhs; whnf)
      | (rw [hx8]; conv => lhs; whnf)
      | (rw [hx9]; conv => lhs; whnf)
      | (rw [bne_self_eq_false]; conv => lhs; whnf)
      | (rw [not_beq_self]; conv => lhs; whnf)
      | (rw [beq_self_eq_true]; conv => lhs; whnf)
      | (rw [cl_eq hcl hm5]; rotate_left; exact rfl; exact rfl; conv => lhs; whnf)
      | (rw [cl_eq hcl hm6]; rotate_left; exact rfl; exact rfl; conv => lhs; whnf))
    refine hnext (m - (i + 1)) _ _ (h_heldTableRefS k m (K + 10) (IntKind.i64.wrap ((i : Int) + 1))) [] (by omega) (fun k => by kernel_rfl) ⟨i + 1, ?_, rfl, rfl, by omega⟩
    rw [wrap_nat i (by omega), ← hK, show k + 10 * ((i + 1 : Nat) : Int) = k + 10 * (i : Int) + 10 by omega]
  · rename_i h
    have hlt : i = m := by have := of_decide_eq_false h; simp at this; omega
    rw [← hlt]
    show _ = _
    kernel_rfl

theorem f_within (n lo hi : Int) : callL E 93 [IN n, IN lo, IN hi] [] = some (BO (inR n lo hi), []) := by
  refine callW (fu := Try.f93) rfl rfl rfl (1) ?_
  intro lp cl hlp hcl
  conv => lhs; whnf
  unfold inR
  cases h : decide (n ≥ lo)
  all_goals kernel_rfl

theorem f_l00In (n lo hi : Int) : callL E 98 [IN n, IN lo, IN hi] [] = some (BO (inR n lo hi), []) := by
  refine callW (fu := Try.f98) rfl rfl rfl (1) ?_
  intro lp cl hlp hcl
  conv => lhs; whnf
  unfold inR
  cases h : decide (n ≥ lo)
  all_goals kernel_rfl


theorem bytes_list (s : ByteArray) : s.toList = s.data.toList := by
  have hs : s.size = s.data.toList.length := by rw [Array.length_toList]; rfl
  have key : ∀ (n i : Nat) (r : List UInt8), n = s.size - i → ByteArray.toList.loop s i r = r.reverse ++ s.data.toList.drop i := by
    intro n
    induction n with
    | zero =>
      intro i r h
      rw [ByteArray.toList.loop, if_neg (by omega), List.drop_of_length_le (by omega), List.append_nil]
    | succ n ih =>
      intro i r h
      have hlt : i < s.size := by omega
      have hlt2 : i < s.data.toList.length := by omega
      have hlt3 : i < s.data.size := by rw [← Array.length_toList]; omega
      rw [ByteArray.toList.loop, if_pos hlt, ih (i + 1) _ (by omega), List.reverse_cons, List.append_assoc, List.drop_eq_getElem_cons hlt2]
      congr 1
      have : s.get! i = s.data.toList[i] := by
        show s.data[i]! = _
        rw [getElem!_pos s.data i hlt3, Array.getElem_toList]
      rw [this]; rfl
  have := key s.size 0 [] (by omega)
  simpa [ByteArray.toList] using this
theorem bytes_empty (s : ByteArray) : (s.toList == (⟨#[]⟩ : ByteArray).toList) = decide (s.size = 0) := by
  rw [bytes_list, bytes_list, Bool.eq_iff_iff, beq_iff_eq, decide_eq_true_eq]
  cases s with
  | mk a => simp [ByteArray.size]


def cmpB (a b : ByteArray) : Int := Lib.compareBytes a.data.toList b.data.toList
theorem f_Compare (a b : ByteArray) : callL E 212 [ST a, ST b] [] = some (IN (cmpB a b), []) := callX rfl rfl
theorem f_isNaN (a : Int) : callL E 213 [IN a] [] = some (BO false, []) := by
  refine callW (fu := Try.f213) rfl rfl rfl (1) ?_
  intro lp cl hlp hcl
  conv => lhs; whnf
  rw [show false = (a != a) from (bne_self_eq_false a).symm]
  show _ = _
  kernel_rfl
def cmpI (a b : Int) : Int := match decide (a < b) with
  | true => -1
  | false => match decide (a > b) with
    | true => 1
    | false => 0
theorem f_CmpI (a b : Int) : callL E 210 [IN a, IN b] [] = some (IN (cmpI a b), []) := by
  unfold cmpI
  refine callW (fu := Try.f210) rfl rfl rfl (1) ?_
  intro lp cl hlp hcl
  conv => lhs; whnf
  rw [cl_eq hcl (f_isNaN a)]
  rotate_left
  · show _ = _
    kernel_rfl
  · show _ = _
    kernel_rfl
  conv => lhs; whnf
  rw [cl_eq hcl (f_isNaN b)]
  rotate_left
  · show _ = _
    kernel_rfl
  · show _ = _
    kernel_rfl
  conv => lhs; whnf
  cases h : decide (a < b)
  · conv => lhs; whnf
    cases h2 : decide (a > b)
    all_goals kernel_rfl
  · show _ = _
    kernel_rfl
def orI (a b : Int) : Int := match a != 0 with
  | true => a
  | false => b
theorem f_Or (a b : Int) : callL E 211 [.d (.arr [[dI a], [dI b]])] [] = some (IN (orI a b), []) := by
  unfold orI
  refine callW (fu := Try.f211) rfl rfl rfl 4 ?_
  intro lp cl hlp hcl
  subst hlp
  conv => lhs; whnf
  cases h : a != 0
  · conv => lhs; whnf
    cases h2 : b != 0
    · have : b = 0 := by simpa using h2
      subst this
      show _ = _
      kernel_rfl
    · show _ = _
      kernel_rfl
  · show _ = _
    kernel_rfl
/-- How two tables stand to each other. -/
def cmpR (a b : TableRef) : Int := match (a.Level == b.Level && a.Level == 0) with
  | true => cmpI b.Id a.Id
  | false => orI (cmpI a.Level b.Level) (cmpB a.Low b.Low)
theorem f_cmpR (a b : TableRef) : callL E 202 [vTableRef a, vTableRef b] [] = some (IN (cmpR a b), []) := by
  unfold cmpR
  refine callW (fu := Try.f202) rfl rfl rfl (1) ?_
  intro lp cl hlp hcl
  conv => lhs; whnf
  cases h : a.Level == b.Level
  · conv => lhs; whnf
    rw [cl_eq hcl (f_CmpI a.Level b.Level)]
    rotate_left
    · show _ = _
      kernel_rfl
    · show _ = _
      kernel_rfl
    conv => lhs; whnf
    rw [cl_eq hcl (f_Compare a.Low b.Low)]
    rotate_left
    · show _ = _
      kernel_rfl
    · show _ = _
      kernel_rfl
    conv => lhs; whnf
    rw [cl_eq hcl (f_Or (cmpI a.Level b.Level) (cmpB a.Low b.Low))]
    rotate_left
    · show _ = _
      kernel_rfl
    · show _ = _
      kernel_rfl
    show _ = _
    kernel_rfl
  · conv => lhs; whnf
    cases h2 : a.Level == 0
    · conv => lhs; whnf
      rw [cl_eq hcl (f_CmpI a.Level b.Level)]
      rotate_left
      · show _ = _
        kernel_rfl
      · show _ = _
        kernel_rfl
      conv => lhs; whnf
      rw [cl_eq hcl (f_Compare a.Low b.Low)]
      rotate_left
      · show _ = _
        kernel_rfl
      · show _ = _
        kernel_rfl
      conv => lhs; whnf
      rw [cl_eq hcl (f_Or (cmpI a.Level b.Level) (cmpB a.Low b.Low))]
      rotate_left
      · show _ = _
        kernel_rfl
      · show _ = _
        kernel_rfl
      show _ = _
      kernel_rfl
    · conv => lhs; whnf
      rw [cl_eq hcl (f_CmpI b.Id a.Id)]
      rotate_left
      · show _ = _
        kernel_rfl
      · show _ = _
        kernel_rfl
      show _ = _
      kernel_rfl
theorem less_cmp : ∀ (x y : List UInt8), Op.bytesLess x y = decide (Lib.compareBytes x y < 0)
  | _, [] => by
    rename_i x
    cases x <;> rfl
  | [], _ :: _ => rfl
  | a :: x, b :: y => by
    rw [Op.bytesLess, Lib.compareBytes, less_cmp x y]
    by_cases h1 : a < b
    · simp [h1]
    · by_cases h2 : b < a
      · have hne : a ≠ b := fun e => by subst e; exact h1 h2
        simp [h1, h2, hne]
      · have he : a = b := by
          have e1 : ¬ a.toNat < b.toNat := fun h => h1 (by rwa [UInt8.lt_iff_toNat_lt])
          have e2 : ¬ b.toNat < a.toNat := fun h => h2 (by rwa [UInt8.lt_iff_toNat_lt])
          exact UInt8.toNat_inj.mp (by omega)
        simp [h1, h2, he]
theorem cmp_zero : ∀ (x y : List UInt8), Lib.compareBytes x y = 0 ↔ x = y
  | [], [] => by simp [Lib.compareBytes]
  | [], _ :: _ => by simp [Lib.compareBytes]
  | _ :: _, [] => by simp [Lib.compareBytes]
  | a :: x, b :: y => by
    rw [Lib.compareBytes]
    by_cases h1 : a < b
    · have hne : a ≠ b := fun e => by subst e; rw [UInt8.lt_iff_toNat_lt] at h1; omega
      simp [h1, hne]
    · by_cases h2 : b < a
      · have hne : a ≠ b := fun e => by subst e; exact h1 h2
        simp [h1, h2, hne]
      · have he : a = b := by
          have e1 : ¬ a.toNat < b.toNat := fun h => h1 (by rwa [UInt8.lt_iff_toNat_lt])
          have e2 : ¬ b.toNat < a.toNat := fun h => h2 (by rwa [UInt8.lt_iff_toNat_lt])
          exact UInt8.toNat_inj.mp (by omega)
        simp [h1, h2, he, cmp_zero x y]
abbrev sLt (a b : ByteArray) : Bool := Op.bytesLess a.toList b.toList
theorem sLt_cmp (a b : ByteArray) : sLt a b = decide (cmpB a b < 0) := by unfold sLt cmpB; rw [less_cmp, bytes_list, bytes_list]
theorem sEq_cmp (a b : ByteArray) : (a.toList == b.toList) = decide (cmpB a b = 0) := by
  unfold cmpB
  rw [bytes_list, bytes_list, Bool.eq_iff_iff, beq_iff_eq, decide_eq_true_eq, cmp_zero]
def befS (a b : TableRef) : Bool := match a.Level != b.Level with
  | true => decide (a.Level < b.Level)
  | false => match a.Level == 0 with
    | true => decide (a.Id > b.Id)
    | false => match Op.bytesLess a.Low.toList b.Low.toList with
      | true => Op.bytesLess a.High.toList b.Low.toList || a.High.toList == b.Low.toList
      | false => false
theorem f_sBefore {rows : List (List D)} {i j : Nat} {a b : TableRef} (hi : rows[i]? = some (rTableRef a)) (hj : rows[j]? = some (rTableRef b)) : callL E 183 [.rp rows i 0, .rp rows j 0] [] = some (BO (befS a b), []) := by
  unfold befS
  refine callW (fu := Try.f183) rfl rfl rfl (1) ?_
  intro lp cl hlp hcl
  conv => lhs; whnf
  repeat (first | (rw [hi]; conv => lhs; whnf) | (rw [hj]; conv => lhs; whnf))
  cases h : a.Level != b.Level
  · conv => lhs; whnf
    repeat (first | (rw [hi]; conv => lhs; whnf) | (rw [hj]; conv => lhs; whnf))
    cases h2 : a.Level == 0
    · conv => lhs; whnf
      repeat (first | (rw [hi]; conv => lhs; whnf) | (rw [hj]; conv => lhs; whnf))
      cases h3 : Op.bytesLess a.Low.toList b.Low.toList
      · show _ = _
        kernel_rfl
      · conv => lhs; whnf
        repeat (first | (rw [hi]; conv => lhs; whnf) | (rw [hj]; conv => lhs; whnf))
        show _ = _
        kernel_rfl
    · conv => lhs; whnf
      repeat (first | (rw [hi]; conv => lhs; whnf) | (rw [hj]; conv => lhs; whnf))
      show _ = _
      kernel_rfl
  · conv => lhs; whnf
    repeat (first | (rw [hi]; conv => lhs; whnf) | (rw [hj]; conv => lhs; whnf))
    show _ = _
    kernel_rfl
def okTab (t : TableRef) : Bool := decide (1 ≤ t.Id ∧ t.Id ≤ 1000000 ∧ 0 ≤ t.Level ∧ t.Level ≤ 2 ∧ 0 ≤ t.Zone ∧ t.Zone ≤ 11 ∧ 0 ≤ t.Page ∧ t.Page ≤ 1000 ∧ 1 ≤ t.Pages ∧ t.Pages ≤ 100 ∧ t.Low.size ≤ 9 ∧ t.High.size ≤ 9 ∧
  Op.bytesLess t.Low.toList t.High.toList = true ∧ 0 < t.First ∧ t.First ≤ t.Last ∧ t.Last ≤ 1000000 ∧ 1 ≤ t.Records ∧ t.Records ≤ 60)
theorem f_iTab (t : TableRef) : callL E 199 [vTableRef t] [] = some (BO (okTab t), []) := by
  refine callW (fu := Try.f199) rfl rfl rfl (1) ?_
  intro lp cl hlp hcl
  conv => lhs; whnf
  repeat' (first
    | (rw [cl_eq hcl (f_within _ _ _)]; rotate_left; exact rfl; exact rfl; conv => lhs; whnf)
    | (split <;> rename_i hh <;> (try rw [hh]) <;> conv => lhs; whnf))
  all_goals refine fin_b rfl ?_
  all_goals (clear hlp hcl; rw [Bool.eq_iff_iff]; unfold okTab; generalize Op.bytesLess t.Low.toList t.High.toList = q at *)
  all_goals (cases q <;> simp [inR] at * <;> try (intros; omega))
theorem f_sTab {rows : List (List D)} {i : Nat} {t : TableRef} (hi : rows[i]? = some (rTableRef t)) : callL E 182 [.rp rows i 0] [] = some (BO (okTab t), []) := by
  refine callW (fu := Try.f182) rfl rfl rfl (1) ?_
  intro lp cl hlp hcl
  conv => lhs; whnf
  repeat' (first
    | (rw [hi]; conv => lhs; whnf)
    | (rw [cl_eq hcl (f_l00In _ _ _)]; rotate_left; exact rfl; exact rfl; conv => lhs; whnf)
    | (split <;> rename_i hh <;> (try rw [hh]) <;> conv => lhs; whnf))
  all_goals refine fin_b rfl ?_
  all_goals (clear hlp hcl; rw [Bool.eq_iff_iff]; unfold okTab; generalize Op.bytesLess t.Low.toList t.High.toList = q at *)
  all_goals (cases q <;> simp [inR] at * <;> try (intros; omega))
abbrev bT (t : TableRef) : Fo := [some (.box (mapO .d (rTableRef t)))]
def pTab (t o : TableRef) : Bool := o.Id == t.Id
theorem f_tabClo (tb o : TableRef) : callL E 201 [vTableRef o, .bp 0 0] (bT tb) = some (BO (pTab tb o), bT tb) := by
  refine callW (fu := Try.f201) rfl rfl rfl (1) ?_
  intro lp cl hlp hcl
  conv => lhs; whnf
  show _ = _
  kernel_rfl
def h_idxTab (l : List TableRef) (i : Int) : List V := ([.d (.arr (l.map rTableRef)), .clo 201 [.bp 0 0], .dead, .dead, .dead, .dead, .dead, IN (l.map rTableRef).length, IN i] ++ List.replicate 10 .dead : List V)
theorem f_idxTab (tb : TableRef) (l : List TableRef) (hl : l.length ≤ 1048576) : callL E 204 [.d (.arr (l.map rTableRef)), .clo 201 [.bp 0 0]] (bT tb) = some (IN (idxP (pTab tb) l), bT tb) := by
  refine callW (fu := Try.f204) rfl rfl rfl (l.length + 1) ?_
  intro lp cl hlp hcl
  generalize hN : l.length + 1 = N
  conv => lhs; whnf
  try rw [hlp]
  refine loop_rule (fun d t F => ∃ i : Nat, t = h_idxTab l i ∧ F = bT tb ∧ d = l.length - i ∧ i ≤ l.length ∧ ∀ j (hj : j < i) (h2 : j < l.length), pTab tb l[j] = false) ?_ N (l.length) _ _ (by omega) ⟨h_idxTab l 0, (bT tb), fun k => by kernel_rfl, 0, rfl, rfl, by omega, by omega, fun j hj => by omega⟩
  rintro d t F ⟨i, rfl, rfl, rfl, hi, hinv⟩ next hnext
  conv => lhs; whnf
  split
  · rename_i h
    have hlt : i < l.length := by have := of_decide_eq_true h; simp at this; omega
    have hg := get_map rTableRef l i hlt
    conv => lhs; whnf
    repeat' (first
      | (rw [hg]; conv => lhs; whnf)
      | (rw [cl_eq hcl (f_tabClo tb l[i])]; rotate_left; exact rfl; exact rfl; conv => lhs; whnf)
      | (split <;> rename_i hh <;> (try rw [hh]) <;> conv => lhs; whnf))
    · rw [idxP_some hlt hh (fun j hj => hinv j hj (by omega))]
      show _ = _
      kernel_rfl
    · refine hnext (l.length - (i + 1)) _ _ (h_idxTab l (IntKind.i64.wrap ((i : Int) + 1))) (bT tb) (by omega) (fun k => by kernel_rfl) ⟨i + 1, by rw [wrap_nat i (by omega)], rfl, rfl, by omega, fun j hj h3 => if e : j = i then by subst e; exact hh else hinv j (by omega) h3⟩
  · rename_i h
    have hlt : i = l.length := by have := of_decide_eq_false h; simp at this; omega
    subst hlt
    rw [idxP_none (fun j hj => hinv j hj hj)]
    show _ = _
    kernel_rfl
theorem f_anyTab (tb : TableRef) (l : List TableRef) (hl : l.length ≤ 1048576) : callL E 200 [.d (.arr (l.map rTableRef)), .clo 201 [.bp 0 0]] (bT tb) = some (BO (l.any (pTab tb)), bT tb) := by
  refine callW (fu := Try.f200) rfl rfl rfl (1) ?_
  intro lp cl hlp hcl
  conv => lhs; whnf
  rw [cl_eq hcl (f_idxTab tb l hl)]
  rotate_left
  · show _ = _
    kernel_rfl
  · show _ = _
    kernel_rfl
  conv => lhs; whnf
  rw [← idxP_any]
  show _ = _
  kernel_rfl
theorem cmp_swap : ∀ (x y : List UInt8), Lib.compareBytes y x = - Lib.compareBytes x y
  | [], [] => rfl
  | [], _ :: _ => rfl
  | _ :: _, [] => rfl
  | a :: x, b :: y => by
    rw [Lib.compareBytes, Lib.compareBytes]
    by_cases h1 : a < b
    · have h2 : ¬ b < a := fun h => by rw [UInt8.lt_iff_toNat_lt] at h1 h; omega
      simp [h1, h2]
    · by_cases h2 : b < a
      · simp [h1, h2]
      · simp [h1, h2, cmp_swap x y]
theorem less_or (x y : List UInt8) : (Op.bytesLess x y || x == y) = !Op.bytesLess y x := by
  have h := cmp_zero x y
  have h2 := cmp_swap x y
  rw [less_cmp, less_cmp, h2, Bool.eq_iff_iff]
  simp only [Bool.or_eq_true, decide_eq_true_eq, beq_iff_eq, Bool.not_eq_true', decide_eq_false_iff_not]
  rw [← h]
  omega
theorem cmpI_neg (a b : Int) : cmpI a b < 0 ↔ a < b := by
  unfold cmpI
  by_cases h : a < b
  · simp [h]
  · by_cases h2 : b < a
    · simp [h, h2]
    · simp [h, h2]
theorem cmpI_self (a : Int) : cmpI a a = 0 := by simp [cmpI]
theorem cmpI_zero {a b : Int} (h : a ≠ b) : cmpI a b ≠ 0 := by
  unfold cmpI
  by_cases h1 : a < b
  · simp [h1]
  · have h2 : b < a := by omega
    simp [h1, h2]
theorem befS_cmp (a t : TableRef) (h : okTab t = true) : befS a t = !(decide (cmpR a t ≥ 0) || (decide (t.Level > 0) && (a.Level == t.Level && Op.bytesLess t.Low.toList a.High.toList))) := by
  have hl : 0 ≤ t.Level := by unfold okTab at h; have := of_decide_eq_true h; omega
  unfold befS cmpR
  by_cases h1 : a.Level = t.Level
  · by_cases h2 : t.Level = 0
    · have := cmpI_neg t.Id a.Id
      rw [h1, h2]
      simp only [bne_self_eq_false, beq_self_eq_true, Bool.and_true]
      rw [Bool.eq_iff_iff]
      simp
      omega
    · have h3 : t.Level > 0 := by omega
      have e1 : (t.Level == 0) = false := by simpa using h2
      have e2 := less_or a.High.toList t.Low.toList
      have e3 := less_cmp a.Low.toList t.Low.toList
      rw [h1]
      simp only [bne_self_eq_false, beq_self_eq_true, e1, Bool.and_false, cmpI_self, orI, Bool.true_and, h3, decide_true]
      rw [bytes_list, bytes_list] at e3
      unfold cmpB
      rw [e2]
      rw [show Op.bytesLess a.Low.toList t.Low.toList = Op.bytesLess a.Low.data.toList t.Low.data.toList by rw [bytes_list, bytes_list], e3]
      by_cases h4 : Lib.compareBytes a.Low.data.toList t.Low.data.toList < 0
      · simp [h4, show ¬ (0 ≤ Lib.compareBytes a.Low.data.toList t.Low.data.toList) by omega]
      · simp [h4, show 0 ≤ Lib.compareBytes a.Low.data.toList t.Low.data.toList by omega]
  · have e1 : (a.Level != t.Level) = true := by simpa using h1
    have e2 : (a.Level == t.Level) = false := by simpa using h1
    have e3 := cmpI_zero h1
    have e4 := cmpI_neg a.Level t.Level
    have e5 : (cmpI a.Level t.Level != 0) = true := by simpa using e3
    simp only [e1, e2, Bool.false_and, orI, e5, Bool.and_false, Bool.or_false]
    rw [Bool.eq_iff_iff]
    simp
    omega
/-- The tables' law at one place. -/
def PT (x : Version) (i : Nat) (h : i < x.Tables.length) : Prop := okTab x.Tables[i] = true ∧ x.Tables[i].Id < x.NextId ∧ x.Tables[i].Last ≤ x.LogSeq ∧ (x.Tables.take i).any (pTab x.Tables[i]) = false ∧ (0 < i → befS (x.Tables[i - 1]'(by omega)) x.Tables[i] = true)
noncomputable def okTabs (x : Version) : Bool := pB (x.Tables.length ≤ 16 ∧ ∀ i (h : i < x.Tables.length), PT x i h)
noncomputable def okVer (x : Version) : Bool := inR x.NextId 1 1000000 && (inR x.LogZone 0 11 && (inR x.LogSeq 0 1000000 && okTabs x))
/-- What DeleteFunc's loop makes. -/
def delS {α : Type} (p : α → Bool) (l : List α) (i : Nat) : Nat → List α × Nat
  | 0 => (l, i)
  | n + 1 => match l[i + 1 + n]? with
    | some v => match p v with
      | true => delS p l i n
      | false => ((delS p l i n).1.set (delS p l i n).2 v, (delS p l i n).2 + 1)
    | none => delS p l i n
theorem delS_ok {α : Type} {p : α → Bool} {l : List α} {i : Nat} (hi : i < l.length) (h1 : p l[i] = true) (h2 : ∀ j (hj : j < i), p (l[j]'(by omega)) = false) : ∀ n, i + 1 + n ≤ l.length →
    (delS p l i n).1.length = l.length ∧ (delS p l i n).2 ≤ i + n ∧ (delS p l i n).1.take (delS p l i n).2 = (l.take (i + 1 + n)).filter (fun x => !p x) ∧ (delS p l i n).1.drop (i + 1 + n) = l.drop (i + 1 + n)
  | 0, _ => by
    refine ⟨rfl, Nat.le_refl _, ?_, rfl⟩
    show l.take i = _
    rw [Nat.add_zero, List.take_succ_eq_append_getElem hi, List.filter_append, List.filter_eq_self.mpr]
    · simp [h1]
    · intro a ha
      obtain ⟨j, hj, rfl⟩ := List.mem_iff_getElem.mp ha
      have : j < i := by simp at hj; omega
      simp [h2 j this]
  | n + 1, hn => by
    obtain ⟨k1, k2, k3, k4⟩ := delS_ok hi h1 h2 n (by omega)
    have hlt : i + 1 + n < l.length := by omega
    have hg : l[i + 1 + n]? = some l[i + 1 + n] := by simp [hlt]
    have ht : l.take (i + 1 + (n + 1)) = l.take (i + 1 + n) ++ [l[i + 1 + n]] := by rw [← List.take_succ_eq_append_getElem hlt]; rfl
    have hd : (delS p l i n).1.drop (i + 1 + (n + 1)) = l.drop (i + 1 + (n + 1)) := by
      have := congrArg (List.drop 1) k4
      rw [List.drop_drop, List.drop_drop] at this
      exact this
    rw [ht, List.filter_append]
    simp only [delS, hg]
    cases hp : p l[i + 1 + n]
    · refine ⟨by simp [k1], by simp; omega, ?_, ?_⟩
      · simp only [List.filter_cons, hp, List.filter_nil, Bool.not_false, if_true]
        rw [List.take_succ_eq_append_getElem (by simp [k1]; omega), List.take_set_of_le (Nat.le_refl _), k3]
        simp
      · simp only
        rw [List.drop_set_of_lt (by omega)]
        exact hd
    · show (delS p l i n).1.length = _ ∧ (delS p l i n).2 ≤ _ ∧ (delS p l i n).1.take (delS p l i n).2 = _ ∧ (delS p l i n).1.drop _ = _
      refine ⟨k1, by omega, ?_, hd⟩
      simp [hp, k3]
theorem first_of {α : Type} (p : α → Bool) : ∀ l : List α, (∀ j (hj : j < l.length), p l[j] = false) ∨ ∃ i, ∃ hi : i < l.length, p l[i] = true ∧ ∀ j (hj : j < i), p (l[j]'(by omega)) = false
  | [] => .inl fun j hj => by simp at hj
  | a :: l => by
    cases ha : p a
    · rcases first_of p l with h | ⟨i, hi, h1, h2⟩
      · refine .inl fun j hj => ?_
        cases j with
        | zero => exact ha
        | succ j => exact h j (by simpa using hj)
      · refine .inr ⟨i + 1, by simpa using hi, h1, fun j hj => ?_⟩
        cases j with
        | zero => exact ha
        | succ j => exact h2 j (by omega)
    · exact .inr ⟨0, by simp, ha, fun j hj => by omega⟩
theorem rTableRef_len (x : TableRef) : (rTableRef x).length = 10 := rfl
def h_tabs (x : Version) (i : Int) : List V := ([.dead, .bp 0 0, .dead, .dead, .dead, .dead, .dead, .d (.arr (x.Tables.map rTableRef)), IN (x.Tables.map rTableRef).length, IN i] ++ List.replicate 65 .dead : List V)
set_option maxHeartbeats 4000000 in
theorem f_tabs (x : Version) (hl : x.Tables.length ≤ 1048576) : callL E 185 [vVersion x] [] = some (BO (okTabs x), []) := by
  refine callW (fu := Try.f185) rfl rfl rfl (x.Tables.length + 1) ?_
  intro lp cl hlp hcl
  generalize hN : x.Tables.length + 1 = N
  conv => lhs; whnf
  try rw [hlp]
  refine loop_rule (fun d t F => ∃ i : Nat, t = h_tabs x i ∧ F = [some (.box (mapO .d (rVersion x)))] ∧ d = x.Tables.length - i ∧ i ≤ x.Tables.length ∧ ∀ j, j < i → ∀ hj, PT x j hj) ?_ N (x.Tables.length) _ _ (by omega) ⟨h_tabs x 0, ([some (.box (mapO .d (rVersion x)))]), fun k => by kernel_rfl, 0, rfl, rfl, by omega, by omega, fun j hj => by omega⟩
  rintro d t F ⟨i, rfl, rfl, rfl, hi, hinv⟩ next hnext
  conv => lhs; whnf
  split
  · rename_i h
    have hlt : i < x.Tables.length := by have := of_decide_eq_true h; simp at this; omega
    have hg := get_map rTableRef x.Tables i hlt
    have hd1 : decide ((0 : Int) ≤ (i : Int)) = true := decide_eq_true (by omega)
    have hd2 : decide ((i : Int) ≤ ((x.Tables.map rTableRef).length : Int)) = true := decide_eq_true (by simp; omega)
    have hsl : List.take ((i : Int).toNat - (0 : Int).toNat) (List.drop (0 : Int).toNat (x.Tables.map rTableRef)) = (x.Tables.take i).map rTableRef := by simp
    have hle : (x.Tables.take i).length ≤ 1048576 := by simp; omega
    have hal := allLen_map rTableRef 10 rTableRef_len x.Tables
    have bad : ¬ PT x i hlt → okTabs x = false := fun hc => pB_false fun h => hc (h.2 i hlt)
    conv => lhs; whnf
    repeat' (first
      | (rw [hg]; conv => lhs; whnf)
      | (rw [cl_eq hcl (f_iTab x.Tables[i])]; rotate_left; exact rfl; exact rfl; conv => lhs; whnf))
    cases ht : okTab x.Tables[i]
    · refine Eq.trans (b := some (BO false, [])) (by kernel_rfl) (congrArg (fun b => some (BO b, ([] : Fo))) (bad ?_).symm)
      intro hp; rw [hp.1] at ht; cases ht
    conv => lhs; whnf
    cases hid : decide (x.Tables[i].Id ≥ x.NextId)
    rotate_left
    · refine Eq.trans (b := some (BO false, [])) (by kernel_rfl) (congrArg (fun b => some (BO b, ([] : Fo))) (bad ?_).symm)
      intro hp; have := of_decide_eq_true hid; have := hp.2.1; omega
    conv => lhs; whnf
    cases hls : decide (x.Tables[i].Last > x.LogSeq)
    rotate_left
    · refine Eq.trans (b := some (BO false, [])) (by kernel_rfl) (congrArg (fun b => some (BO b, ([] : Fo))) (bad ?_).symm)
      intro hp; have := of_decide_eq_true hls; have := hp.2.2.1; omega
    conv => lhs; whnf
    repeat' (first
      | (rw [hal]; conv => lhs; whnf)
      | (rw [hd1]; conv => lhs; whnf)
      | (rw [hd2]; conv => lhs; whnf)
      | (rw [hsl]; conv => lhs; whnf)
      | (rw [cl_eq hcl (f_anyTab x.Tables[i] (x.Tables.take i) hle)]; rotate_left; exact rfl; exact rfl; conv => lhs; whnf))
    cases han : (x.Tables.take i).any (pTab x.Tables[i])
    rotate_left
    · refine Eq.trans (b := some (BO false, [])) (by kernel_rfl) (congrArg (fun b => some (BO b, ([] : Fo))) (bad ?_).symm)
      intro hp; rw [hp.2.2.2.1] at han; cases han
    conv => lhs; whnf
    have good : (0 < i → befS (x.Tables[i - 1]'(by omega)) x.Tables[i] = true) → ∀ j, j < i + 1 → ∀ hj, PT x j hj := fun hb j hj hj2 => by
      by_cases e : j = i
      · subst e
        exact ⟨ht, by have := of_decide_eq_false hid; omega, by have := of_decide_eq_false hls; omega, han, hb⟩
      · exact hinv j (by omega) hj2
    cases hi0 : ((i : Int) == 0)
    · have h1 : 0 < i := by simp at hi0; omega
      have hw : IntKind.i64.wrap ((i : Int) - 1) = ((i - 1 : Nat) : Int) := by rw [wrap_sm _ (by omega) (by omega)]; omega
      have hlt2 : i - 1 < x.Tables.length := by omega
      have hg2 := get_map rTableRef x.Tables (i - 1) hlt2
      have hc := befS_cmp x.Tables[i - 1] x.Tables[i] ht
      have hb1 : decide (0 ≤ ((i - 1 : Nat) : Int)) = true := decide_eq_true (by omega)
      conv => lhs; whnf
      rw [hw]
      repeat' (first
        | (rw [hg2]; conv => lhs; whnf)
        | (rw [hg]; conv => lhs; whnf)
        | (rw [cl_eq hcl (f_cmpR x.Tables[i - 1] x.Tables[i])]; rotate_left; exact rfl; exact rfl; conv => lhs; whnf))
      cases c1 : decide (cmpR x.Tables[i - 1] x.Tables[i] ≥ 0)
      rotate_left
      · refine Eq.trans (b := some (BO false, [])) (by kernel_rfl) (congrArg (fun b => some (BO b, ([] : Fo))) (bad ?_).symm)
        intro hp; have := hp.2.2.2.2 h1; rw [hc, c1] at this; simp at this
      conv => lhs; whnf
      cases c2 : decide (x.Tables[i].Level > 0)
      · refine hnext (x.Tables.length - (i + 1)) _ _ (h_tabs x (IntKind.i64.wrap ((i : Int) + 1))) ([some (.box (mapO .d (rVersion x)))]) (by omega) (fun k => by kernel_rfl) ⟨i + 1, by rw [wrap_nat i (by omega)], rfl, rfl, by omega, good (fun _ => by rw [hc, c1, c2]; rfl)⟩
      conv => lhs; whnf
      cases c3 : x.Tables[i - 1].Level == x.Tables[i].Level
      · refine hnext (x.Tables.length - (i + 1)) _ _ (h_tabs x (IntKind.i64.wrap ((i : Int) + 1))) ([some (.box (mapO .d (rVersion x)))]) (by omega) (fun k => by kernel_rfl) ⟨i + 1, by rw [wrap_nat i (by omega)], rfl, rfl, by omega, good (fun _ => by rw [hc, c1, c2, c3]; rfl)⟩
      conv => lhs; whnf
      have e4 := less_or x.Tables[i - 1].High.toList x.Tables[i].Low.toList
      cases c4 : !(Op.bytesLess x.Tables[i - 1].High.toList x.Tables[i].Low.toList || x.Tables[i - 1].High.toList == x.Tables[i].Low.toList)
      all_goals (rw [e4, Bool.not_not] at c4)
      · refine hnext (x.Tables.length - (i + 1)) _ _ (h_tabs x (IntKind.i64.wrap ((i : Int) + 1))) ([some (.box (mapO .d (rVersion x)))]) (by omega) (fun k => by kernel_rfl) ⟨i + 1, by rw [wrap_nat i (by omega)], rfl, rfl, by omega, good (fun _ => by rw [hc, c1, c2, c3, c4]; rfl)⟩
      · refine Eq.trans (b := some (BO false, [])) (by kernel_rfl) (congrArg (fun b => some (BO b, ([] : Fo))) (bad ?_).symm)
        intro hp; have := hp.2.2.2.2 h1; rw [hc, c1, c2, c3, c4] at this; cases this
    · have h1 : i = 0 := by simp at hi0; omega
      conv => lhs; whnf
      refine hnext (x.Tables.length - (i + 1)) _ _ (h_tabs x (IntKind.i64.wrap ((i : Int) + 1))) ([some (.box (mapO .d (rVersion x)))]) (by omega) (fun k => by kernel_rfl) ⟨i + 1, by rw [wrap_nat i (by omega)], rfl, rfl, by omega, good (fun h => by omega)⟩
  · rename_i h
    have hlt : i = x.Tables.length := by have := of_decide_eq_false h; simp at this; omega
    conv => lhs; whnf
    cases hc : decide (((x.Tables.map rTableRef).length : Int) ≤ 16)
    · rw [show okTabs x = false from pB_false fun h => by have := of_decide_eq_false hc; simp at this; omega]
      show _ = _
      kernel_rfl
    · rw [show okTabs x = true from pB_true ⟨by have := of_decide_eq_true hc; simp at this; omega, fun j hj => hinv j (by omega) hj⟩]
      show _ = _
      kernel_rfl
theorem f_iVer (x : Version) (hl : x.Tables.length ≤ 1048576) : callL E 136 [vVersion x] [] = some (BO (okVer x), []) := by
  unfold okVer
  refine callW (fu := Try.f136) rfl rfl rfl (1) ?_
  intro lp cl hlp hcl
  conv => lhs; whnf
  rw [cl_eq hcl (f_within x.NextId 1 1000000)]
  rotate_left
  · show _ = _
    kernel_rfl
  · show _ = _
    kernel_rfl
  conv => lhs; whnf
  cases n1 : inR x.NextId 1 1000000
  · show _ = _
    kernel_rfl
  conv => lhs; whnf
  rw [cl_eq hcl (f_within x.LogZone 0 11)]
  rotate_left
  · show _ = _
    kernel_rfl
  · show _ = _
    kernel_rfl
  conv => lhs; whnf
  cases n2 : inR x.LogZone 0 11
  · show _ = _
    kernel_rfl
  conv => lhs; whnf
  rw [cl_eq hcl (f_within x.LogSeq 0 1000000)]
  rotate_left
  · show _ = _
    kernel_rfl
  · show _ = _
    kernel_rfl
  conv => lhs; whnf
  cases n3 : inR x.LogSeq 0 1000000
  · show _ = _
    kernel_rfl
  conv => lhs; whnf
  rw [cl_eq hcl (f_tabs x hl)]
  rotate_left
  · show _ = _
    kernel_rfl
  · show _ = _
    kernel_rfl
  show _ = _
  kernel_rfl
theorem mem_take {α : Type} {l : List α} {i j : Nat} (h : j < i) (hj : j < l.length) : l[j] ∈ l.take i := by
  rw [List.mem_iff_getElem]
  exact ⟨j, by simp; omega, by simp⟩
abbrev bV (x : Version) : Fo := [some (.box (mapO .d (rVersion x)))]
def h_sVer (i : Int) : List V := ([.bp 0 0, .dead, .dead, IN i] ++ List.replicate 106 .dead : List V)
def h_sVer2 (x : Version) (i : Nat) (k : Int) : List V := ([.bp 0 0, .dead, .dead, IN (i : Int), .rp (x.Tables.map rTableRef) i 0, IN k] ++ List.replicate 104 .dead : List V)
set_option maxHeartbeats 4000000 in
theorem f_sVer (x : Version) : callL E 133 [.bp 0 0] (bV x) = some (BO (okVer x), bV x) := by
  unfold okVer
  refine callW (fu := Try.f133) rfl rfl rfl (x.Tables.length + 1) ?_
  intro lp cl hlp hcl
  generalize hN : x.Tables.length + 1 = N
  conv => lhs; whnf
  rw [cl_eq hcl (f_l00In x.NextId 1 1000000)]
  rotate_left
  · show _ = _
    kernel_rfl
  · show _ = _
    kernel_rfl
  conv => lhs; whnf
  cases n1 : inR x.NextId 1 1000000
  · show _ = _
    kernel_rfl
  conv => lhs; whnf
  rw [cl_eq hcl (f_l00In x.LogZone 0 11)]
  rotate_left
  · show _ = _
    kernel_rfl
  · show _ = _
    kernel_rfl
  conv => lhs; whnf
  cases n2 : inR x.LogZone 0 11
  · show _ = _
    kernel_rfl
  conv => lhs; whnf
  rw [cl_eq hcl (f_l00In x.LogSeq 0 1000000)]
  rotate_left
  · show _ = _
    kernel_rfl
  · show _ = _
    kernel_rfl
  conv => lhs; whnf
  cases n3 : inR x.LogSeq 0 1000000
  · show _ = _
    kernel_rfl
  conv => lhs; whnf
  cases n4 : decide (((x.Tables.map rTableRef).length : Int) > 16)
  rotate_left
  · rw [show okTabs x = false from pB_false fun h => by have := of_decide_eq_true n4; simp at this; omega]
    show _ = _
    kernel_rfl
  conv => lhs; whnf
  show _ = some (BO (okTabs x), bV x)
  have hL : x.Tables.length ≤ 16 := by have := of_decide_eq_false n4; simp at this; omega
  try rw [hlp]
  refine loop_rule (fun d t F => ∃ i : Nat, t = h_sVer i ∧ F = bV x ∧ d = x.Tables.length - i ∧ i ≤ x.Tables.length ∧ ∀ j, j < i → ∀ hj, PT x j hj) ?_ N (x.Tables.length) _ _ (by omega) ⟨h_sVer 0, (bV x), fun k => by kernel_rfl, 0, rfl, rfl, by omega, by omega, fun j hj => by omega⟩
  rintro d t F ⟨i, rfl, rfl, rfl, hi, hinv⟩ next hnext
  conv => lhs; whnf
  split
  · rename_i h
    have hlt : i < x.Tables.length := by have := of_decide_eq_true h; simp at this; omega
    have hg := get_map rTableRef x.Tables i hlt
    have bad : ¬ PT x i hlt → okTabs x = false := fun hc => pB_false fun h => hc (h.2 i hlt)
    conv => lhs; whnf
    repeat' (first
      | (rw [hg]; conv => lhs; whnf)
      | (rw [cl_eq hcl (f_sTab hg)]; rotate_left; exact rfl; exact rfl; conv => lhs; whnf))
    cases ht : okTab x.Tables[i]
    · refine Eq.trans (b := some (BO false, bV x)) (by kernel_rfl) (congrArg (fun b => some (BO b, bV x)) (bad ?_).symm)
      intro hp; rw [hp.1] at ht; cases ht
    conv => lhs; whnf
    repeat' (first
      | (rw [hg]; conv => lhs; whnf))
    cases hid : decide (x.Tables[i].Id ≥ x.NextId)
    rotate_left
    · refine Eq.trans (b := some (BO false, bV x)) (by kernel_rfl) (congrArg (fun b => some (BO b, bV x)) (bad ?_).symm)
      intro hp; have := of_decide_eq_true hid; have := hp.2.1; omega
    conv => lhs; whnf
    repeat' (first
      | (rw [hg]; conv => lhs; whnf))
    cases hls : decide (x.Tables[i].Last > x.LogSeq)
    rotate_left
    · refine Eq.trans (b := some (BO false, bV x)) (by kernel_rfl) (congrArg (fun b => some (BO b, bV x)) (bad ?_).symm)
      intro hp; have := of_decide_eq_true hls; have := hp.2.2.1; omega
    conv => lhs; whnf
    have good : (0 < i → befS (x.Tables[i - 1]'(by omega)) x.Tables[i] = true) → (x.Tables.take i).any (pTab x.Tables[i]) = false → ∀ j, j < i + 1 → ∀ hj, PT x j hj := fun hb han j hj hj2 => by
      by_cases e : j = i
      · subst e
        exact ⟨ht, by have := of_decide_eq_false hid; omega, by have := of_decide_eq_false hls; omega, han, hb⟩
      · exact hinv j (by omega) hj2
    cases hi0 : decide ((i : Int) > 0)
    · have hb : 0 < i → befS (x.Tables[i - 1]'(by omega)) x.Tables[i] = true := fun h => absurd (of_decide_eq_false hi0) (by omega)
      conv => lhs; whnf
      try rw [hlp]
      refine loop_rule (fun d t F => ∃ k : Nat, t = h_sVer2 x i k ∧ F = bV x ∧ d = i - k ∧ k ≤ i ∧ ∀ j, j < k → ∀ hj : j < x.Tables.length, pTab x.Tables[i] x.Tables[j] = false) ?_ N (i) _ _ (by omega) ⟨h_sVer2 x i 0, (bV x), fun k => by kernel_rfl, 0, rfl, rfl, by omega, by omega, fun j hj => by omega⟩
      rintro d t F ⟨k, rfl, rfl, rfl, hik, hinvk⟩ nextk hnextk
      conv => lhs; whnf
      split
      · rename_i hk
        have hk1 : k < i := by have := of_decide_eq_true hk; omega
        have hgk := get_map rTableRef x.Tables k (by omega)
        conv => lhs; whnf
        have hgi : (x.Tables.map rTableRef)[i]? = some (rTableRef x.Tables[i]) := hg
        repeat' (first
          | (rw [hgk]; conv => lhs; whnf)
          | (rw [hgi]; conv => lhs; whnf))
        cases he : x.Tables[k].Id == x.Tables[i].Id
        · conv => lhs; whnf
          refine hnextk (i - (k + 1)) _ _ (h_sVer2 x i (IntKind.i64.wrap ((k : Int) + 1))) (bV x) (by omega) (fun k => by kernel_rfl) ⟨k + 1, by rw [wrap_nat k (by omega)], rfl, rfl, by omega, fun j hj hj2 => if e : j = k then by subst e; exact he else hinvk j (by omega) hj2⟩
        · refine Eq.trans (b := some (BO false, bV x)) (by kernel_rfl) (congrArg (fun b => some (BO b, bV x)) (bad ?_).symm)
          intro hp
          have := List.any_eq_false.mp hp.2.2.2.1 x.Tables[k] (mem_take hk1 (by omega))
          exact this he
      · rename_i hk
        have hk1 : k = i := by have := of_decide_eq_false hk; omega
        conv => lhs; whnf
        have hany : (x.Tables.take i).any (pTab x.Tables[i]) = false := List.any_eq_false.mpr fun o ho => by
          obtain ⟨j, hj, rfl⟩ := List.mem_iff_getElem.mp ho
          have hj1 : j < i := by simp at hj; omega
          have := hinvk j (by omega) (by omega)
          rw [List.getElem_take, this]
          decide
        refine hnext (x.Tables.length - (i + 1)) _ _ (h_sVer (IntKind.i64.wrap ((i : Int) + 1))) (bV x) (by omega) (fun k => by kernel_rfl) ⟨i + 1, by rw [wrap_nat i (by omega)], rfl, rfl, by omega, good hb hany⟩
    · have h1 : 0 < i := by have := of_decide_eq_true hi0; omega
      have hw : IntKind.i64.wrap ((i : Int) - 1) = ((i - 1 : Nat) : Int) := by rw [wrap_sm _ (by omega) (by omega)]; omega
      have hlt2 : i - 1 < x.Tables.length := by omega
      have hg2 := get_map rTableRef x.Tables (i - 1) hlt2
      conv => lhs; whnf
      rw [hw]
      repeat' (first
        | (rw [hg2]; conv => lhs; whnf)
        | (rw [hg]; conv => lhs; whnf)
        | (rw [cl_eq hcl (f_sBefore hg2 hg)]; rotate_left; exact rfl; exact rfl; conv => lhs; whnf))
      cases hbb : befS x.Tables[i - 1] x.Tables[i]
      · refine Eq.trans (b := some (BO false, bV x)) (by kernel_rfl) (congrArg (fun b => some (BO b, bV x)) (bad ?_).symm)
        intro hp; rw [hp.2.2.2.2 h1] at hbb; cases hbb
      have hb : 0 < i → befS (x.Tables[i - 1]'(by omega)) x.Tables[i] = true := fun _ => hbb
      conv => lhs; whnf
      try rw [hlp]
      refine loop_rule (fun d t F => ∃ k : Nat, t = h_sVer2 x i k ∧ F = bV x ∧ d = i - k ∧ k ≤ i ∧ ∀ j, j < k → ∀ hj : j < x.Tables.length, pTab x.Tables[i] x.Tables[j] = false) ?_ N (i) _ _ (by omega) ⟨h_sVer2 x i 0, (bV x), fun k => by kernel_rfl, 0, rfl, rfl, by omega, by omega, fun j hj => by omega⟩
      rintro d t F ⟨k, rfl, rfl, rfl, hik, hinvk⟩ nextk hnextk
      conv => lhs; whnf
      split
      · rename_i hk
        have hk1 : k < i := by have := of_decide_eq_true hk; omega
        have hgk := get_map rTableRef x.Tables k (by omega)
        conv => lhs; whnf
        have hgi : (x.Tables.map rTableRef)[i]? = some (rTableRef x.Tables[i]) := hg
        repeat' (first
          | (rw [hgk]; conv => lhs; whnf)
          | (rw [hgi]; conv => lhs; whnf))
        cases he : x.Tables[k].Id == x.Tables[i].Id
        · conv => lhs; whnf
          refine hnextk (i - (k + 1)) _ _ (h_sVer2 x i (IntKind.i64.wrap ((k : Int) + 1))) (bV x) (by omega) (fun k => by kernel_rfl) ⟨k + 1, by rw [wrap_nat k (by omega)], rfl, rfl, by omega, fun j hj hj2 => if e : j = k then by subst e; exact he else hinvk j (by omega) hj2⟩
        · refine Eq.trans (b := some (BO false, bV x)) (by kernel_rfl) (congrArg (fun b => some (BO b, bV x)) (bad ?_).symm)
          intro hp
          have := List.any_eq_false.mp hp.2.2.2.1 x.Tables[k] (mem_take hk1 (by omega))
          exact this he
      · rename_i hk
        have hk1 : k = i := by have := of_decide_eq_false hk; omega
        conv => lhs; whnf
        have hany : (x.Tables.take i).any (pTab x.Tables[i]) = false := List.any_eq_false.mpr fun o ho => by
          obtain ⟨j, hj, rfl⟩ := List.mem_iff_getElem.mp ho
          have hj1 : j < i := by simp at hj; omega
          have := hinvk j (by omega) (by omega)
          rw [List.getElem_take, this]
          decide
        refine hnext (x.Tables.length - (i + 1)) _ _ (h_sVer (IntKind.i64.wrap ((i : Int) + 1))) (bV x) (by omega) (fun k => by kernel_rfl) ⟨i + 1, by rw [wrap_nat i (by omega)], rfl, rfl, by omega, good hb hany⟩
  · rename_i h
    have hlt : i = x.Tables.length := by have := of_decide_eq_false h; simp at this; omega
    rw [show okTabs x = true from pB_true ⟨hL, fun j hj => hinv j (by omega) hj⟩]
    show _ = _
    kernel_rfl
abbrev bL (lv : Int) : Option Root := some (.box [.d (dI lv)])
def pAt (lv : Int) (t : TableRef) : Bool := t.Level != lv
theorem f_atClo (lv : Int) (o : TableRef) : callL E 189 [vTableRef o, .bp 0 0] [bL lv] = some (BO (pAt lv o), [bL lv]) := by
  refine callW (fu := Try.f189) rfl rfl rfl (1) ?_
  intro lp cl hlp hcl
  conv => lhs; whnf
  show _ = _
  kernel_rfl
theorem delS_step {α : Type} (p : α → Bool) (l : List α) (i n : Nat) (h : i + 1 + n < l.length) : delS p l i (n + 1) = match p l[i + 1 + n] with
    | true => delS p l i n
    | false => ((delS p l i n).1.set (delS p l i n).2 l[i + 1 + n], (delS p l i n).2 + 1) := by
  simp only [delS, List.getElem?_eq_getElem h]
def h_idxOAt (l : List TableRef) (i : Int) : List V := ([.sl 0, .clo 189 [.bp 1 0], .dead, .dead, .dead, .dead, .dead, IN (l.map rTableRef).length, IN i] ++ List.replicate 10 .dead : List V)
theorem f_idxOAt (lv : Int) (l : List TableRef) (hl : l.length ≤ 1048576) : callL E 204 [.sl 0, .clo 189 [.bp 1 0]] (some (.arr 170 10 (l.map rTableRef)) :: [bL lv]) = some (IN (idxP (pAt lv) l), some (.arr 170 10 (l.map rTableRef)) :: [bL lv]) := by
  refine callW (fu := Try.f204) rfl rfl rfl (l.length + 1) ?_
  intro lp cl hlp hcl
  generalize hN : l.length + 1 = N
  conv => lhs; whnf
  try rw [hlp]
  refine loop_rule (fun d t F => ∃ i : Nat, t = h_idxOAt l i ∧ F = some (.arr 170 10 (l.map rTableRef)) :: [bL lv] ∧ d = l.length - i ∧ i ≤ l.length ∧ ∀ j (hj : j < i) (h2 : j < l.length), pAt lv l[j] = false) ?_ N (l.length) _ _ (by omega) ⟨h_idxOAt l 0, (some (.arr 170 10 (l.map rTableRef)) :: [bL lv]), fun k => by kernel_rfl, 0, rfl, rfl, by omega, by omega, fun j hj => by omega⟩
  rintro d t F ⟨i, rfl, rfl, rfl, hi, hinv⟩ next hnext
  conv => lhs; whnf
  split
  · rename_i h
    have hlt : i < l.length := by have := of_decide_eq_true h; simp at this; omega
    have hg := get_map rTableRef l i hlt
    conv => lhs; whnf
    repeat' (first
      | (rw [hg]; conv => lhs; whnf)
      | (rw [cl_eq hcl (f_atClo lv l[i])]; rotate_left; exact rfl; exact rfl; conv => lhs; whnf)
      | (split <;> rename_i hh <;> (try rw [hh]) <;> conv => lhs; whnf))
    · rw [idxP_some hlt hh (fun j hj => hinv j hj (by omega))]
      show _ = _
      kernel_rfl
    · refine hnext (l.length - (i + 1)) _ _ (h_idxOAt l (IntKind.i64.wrap ((i : Int) + 1))) (some (.arr 170 10 (l.map rTableRef)) :: [bL lv]) (by omega) (fun k => by kernel_rfl) ⟨i + 1, by rw [wrap_nat i (by omega)], rfl, rfl, by omega, fun j hj h3 => if e : j = i then by subst e; exact hh else hinv j (by omega) h3⟩
  · rename_i h
    have hlt : i = l.length := by have := of_decide_eq_false h; simp at this; omega
    subst hlt
    rw [idxP_none (fun j hj => hinv j hj hj)]
    show _ = _
    kernel_rfl
theorem f_delNAt (lv : Int) (l : List TableRef) (hl : l.length ≤ 1048576) (h : ∀ j (hj : j < l.length), pAt lv l[j] = false) : callL E 187 [.sl 0, .clo 189 [.bp 1 0]] (some (.arr 170 10 (l.map rTableRef)) :: [bL lv]) = some (.sl 0, some (.arr 170 10 (l.map rTableRef)) :: [bL lv]) := by
  refine callW (fu := Try.f187) rfl rfl rfl (1) ?_
  intro lp cl hlp hcl
  conv => lhs; whnf
  rw [cl_eq hcl (f_idxOAt lv l hl)]
  rotate_left
  · show _ = _
    kernel_rfl
  · show _ = _
    kernel_rfl
  conv => lhs; whnf
  rw [idxP_none h]
  show _ = _
  kernel_rfl
def h_delAt (i j : Int) : List V := ([.sl 0, .clo 189 [.bp 1 0], .dead, .dead, .dead, IN i, IN j] ++ List.replicate 35 .dead : List V)
set_option maxHeartbeats 4000000 in
theorem f_delYAt (lv : Int) (l : List TableRef) (hl : l.length ≤ 1048576) {i0 : Nat} (hi0 : i0 < l.length) (h1 : pAt lv l[i0] = true) (h2 : ∀ j (hj : j < i0), pAt lv (l[j]'(by omega)) = false) : callL E 187 [.sl 0, .clo 189 [.bp 1 0]] (some (.arr 170 10 (l.map rTableRef)) :: [bL lv]) = some (.sl (1 + List.length [bL lv]), (none :: [bL lv]) ++ [some (.arr 170 10 ((l.filter (fun x => !(pAt lv x))).map rTableRef))]) := by
  refine callW (fu := Try.f187) rfl rfl rfl (l.length + 1) ?_
  intro lp cl hlp hcl
  generalize hN : l.length + 1 = N
  conv => lhs; whnf
  rw [cl_eq hcl (f_idxOAt lv l hl)]
  rotate_left
  · show _ = _
    kernel_rfl
  · show _ = _
    kernel_rfl
  conv => lhs; whnf
  rw [idxP_some hi0 h1 h2]
  have e1 : ((i0 : Int) == -1) = false := by first | (simp; done) | (simp; omega)
  have e2 : IntKind.i64.wrap ((i0 : Int) + 1) = ((i0 + 1 + 0 : Nat) : Int) := by rw [wrap_nat i0 (by omega)]
  rw [e1]
  conv => lhs; whnf
  rw [e2]
  try rw [hlp]
  refine loop_rule (fun d t F => ∃ n : Nat, t = h_delAt ((delS (pAt lv) l i0 n).2 : Nat) ((i0 + 1 + n : Nat) : Int) ∧ F = some (.arr 170 10 ((delS (pAt lv) l i0 n).1.map rTableRef)) :: [bL lv] ∧ d = (l.length - (i0 + 1)) - n ∧ n ≤ (l.length - (i0 + 1)) ∧ True) ?_ N ((l.length - (i0 + 1))) _ _ (by omega) ⟨h_delAt ((delS (pAt lv) l i0 0).2 : Nat) ((i0 + 1 + 0 : Nat) : Int), (some (.arr 170 10 ((delS (pAt lv) l i0 0).1.map rTableRef)) :: [bL lv]), fun k => by kernel_rfl, 0, rfl, rfl, by omega, by omega, trivial⟩
  rintro d t F ⟨n, rfl, rfl, rfl, hin, hinvn⟩ nextn hnextn
  conv => lhs; whnf
  obtain ⟨k1, k2, k3, k4⟩ := delS_ok hi0 h1 h2 n (by omega)
  have hS := delS_step (pAt lv) l i0 n
  generalize hD1 : (delS (pAt lv) l i0 n).1 = S at *
  generalize hD2 : (delS (pAt lv) l i0 n).2 = w at *
  split
  · rename_i h
    have hlt : i0 + 1 + n < l.length := by have := of_decide_eq_true h; simp at this; omega
    have hS := hS hlt
    have hj : S[i0 + 1 + n]? = l[i0 + 1 + n]? := by
      have := congrArg (fun x => x[0]?) k4
      simpa [List.getElem?_drop] using this
    have hgj : (S.map rTableRef)[((i0 + 1 + n : Nat) : Int).toNat]? = some (rTableRef l[i0 + 1 + n]) := by
      rw [Int.toNat_natCast, List.getElem?_map, hj, List.getElem?_eq_getElem hlt]; rfl
    have wr2 : IntKind.i64.wrap (((i0 + 1 + n : Nat) : Int) + 1) = ((i0 + 1 + (n + 1) : Nat) : Int) := wrap_nat (i0 + 1 + n) (by omega)
    conv => lhs; whnf
    repeat' (first
      | (rw [hgj]; conv => lhs; whnf)
      | (rw [cl_eq hcl (f_atClo lv l[i0 + 1 + n])]; rotate_left; exact rfl; exact rfl; conv => lhs; whnf))
    cases hp : pAt lv l[i0 + 1 + n]
    · rw [hp] at hS
      have hw : w < S.length := by omega
      have hgi := get_map rTableRef S w hw
      have wr1 : IntKind.i64.wrap ((w : Int) + 1) = ((w + 1 : Nat) : Int) := wrap_nat w (by omega)
      conv => lhs; whnf
      repeat' (first
        | (rw [hgi]; conv => lhs; whnf))
      rw [wr1, wr2]
      replace hS : delS (pAt lv) l i0 (n + 1) = (S.set w l[i0 + 1 + n], w + 1) := hS
      refine hnextn (l.length - (i0 + 1) - (n + 1)) _ _ (h_delAt ((w + 1 : Nat) : Int) ((i0 + 1 + (n + 1) : Nat) : Int)) (some (.arr 170 10 ((S.set w l[i0 + 1 + n]).map rTableRef)) :: [bL lv]) (by omega) (fun k => ?_) ⟨n + 1, by rw [hS], by rw [hS], rfl, by omega, trivial⟩
      rw [List.map_set]
      show _ = _
      kernel_rfl
    · rw [hp] at hS
      conv => lhs; whnf
      rw [wr2]
      refine hnextn (l.length - (i0 + 1) - (n + 1)) _ _ (h_delAt (w : Int) ((i0 + 1 + (n + 1) : Nat) : Int)) (some (.arr 170 10 (S.map rTableRef)) :: [bL lv]) (by omega) (fun k => ?_) ⟨n + 1, by rw [hS, hD2], by rw [hS, hD1], rfl, by omega, trivial⟩
      show _ = _
      kernel_rfl
  · rename_i h
    have heq : i0 + 1 + n = l.length := by have := of_decide_eq_false h; simp at this; omega
    have hw : w < S.length := by omega
    have d1 : decide ((0 : Int) ≤ (w : Int)) = true := decide_eq_true (by omega)
    have d2 : decide ((w : Int) < ((S.map rTableRef).length : Int)) = true := decide_eq_true (by simp; omega)
    have d3 : ∀ z : List D, decide ((w : Int) ≤ ((List.take (w : Int).toNat (S.map rTableRef) ++ List.replicate ((S.map rTableRef).length - (w : Int).toNat) z).length : Int)) = true := fun z => decide_eq_true (by simp; omega)
    have hfin : ∀ z : List D, List.take (w : Int).toNat (List.take (w : Int).toNat (S.map rTableRef) ++ List.replicate ((S.map rTableRef).length - (w : Int).toNat) z) = (l.filter (fun x => !(pAt lv x))).map rTableRef := fun z => by
      rw [heq, List.take_length] at k3
      rw [← k3, List.map_take, Int.toNat_natCast, List.take_append_of_le_length (by simp; omega), List.take_take, Nat.min_self]
    conv => lhs; whnf
    repeat' (first
      | (rw [d1]; conv => lhs; whnf)
      | (rw [d2]; conv => lhs; whnf)
      | (rw [d3]; conv => lhs; whnf))
    refine Eq.trans (b := some (.sl (1 + List.length [bL lv]), (none :: [bL lv]) ++ [some (.arr 170 10 (List.take (w : Int).toNat (List.take (w : Int).toNat (S.map rTableRef) ++ List.replicate ((S.map rTableRef).length - (w : Int).toNat) (rTableRef ⟨0, 0, 0, 0, 0, ⟨#[]⟩, ⟨#[]⟩, 0, 0, 0⟩))))])) (by kernel_rfl) (by rw [hfin])

theorem okTab_len (x : Version) (h : okVer x = true) : x.Tables.length ≤ 16 := by
  unfold okVer okTabs at h
  simp only [Bool.and_eq_true] at h
  exact (pB_iff.mp h.2.2.2).1
theorem f_CloneO (l : List TableRef) (hl : l.length ≤ 1048576) : callL E 188 [.sl 0] [some (.arr 170 10 (l.map rTableRef))] = some (.sl 1, [some (.arr 170 10 (l.map rTableRef)), some (.arr 170 10 (l.map rTableRef))]) :=
  callX rfl (by
    have h1 : appOk (l.map rTableRef).length 96 = true := appOk_of _ _ (by simp; omega)
    unfold extClone
    simp only [h1]
    rfl)
def atL (x : Version) (lv : Int) : List TableRef := x.Tables.filter fun t => t.Level == lv
theorem atL_not (x : Version) (lv : Int) : (x.Tables.filter fun t => !(pAt lv t)) = atL x lv := by
  unfold atL
  congr 1
  funext t
  simp [pAt, bne]
theorem f_iAt (x : Version) (lv : Int) (hl : x.Tables.length ≤ 1048576) : callL E 157 [oVersion x, IN lv] (FVersion x) = some (.sl 1, FVersion x ++ [some (.arr 170 10 ((atL x lv).map rTableRef))]) := by
  rw [← atL_not]
  refine callW (fu := Try.f157) rfl rfl rfl (1) ?_
  intro lp cl hlp hcl
  conv => lhs; whnf
  rw [cl_eq hcl (f_CloneO x.Tables hl)]
  rotate_left
  · show _ = _
    kernel_rfl
  · show _ = _
    kernel_rfl
  conv => lhs; whnf
  rcases first_of (pAt lv) x.Tables with h | ⟨i, hi, h1, h2⟩
  · rw [cl_eq hcl (f_delNAt lv x.Tables hl h)]
    rotate_left
    · show _ = _
      kernel_rfl
    · show _ = _
      kernel_rfl
    conv => lhs; whnf
    rw [List.filter_eq_self.mpr (fun a ha => by
      obtain ⟨j, hj, rfl⟩ := List.mem_iff_getElem.mp ha
      simp [h j hj])]
    show _ = _
    kernel_rfl
  · rw [cl_eq hcl (f_delYAt lv x.Tables hl hi h1 h2)]
    rotate_left
    · show _ = _
      kernel_rfl
    · show _ = _
      kernel_rfl
    show _ = _
    kernel_rfl

theorem minS_eq (a b : ByteArray) : minS a b = match Op.bytesLess b.toList a.toList with
    | true => b
    | false => a := by
  unfold minS
  rw [less_or a.toList b.toList]
  cases Op.bytesLess b.toList a.toList <;> rfl
theorem maxS_eq (a b : ByteArray) : maxS a b = match !(Op.bytesLess b.toList a.toList || b.toList == a.toList) with
    | true => b
    | false => a := by
  unfold maxS
  rw [less_or b.toList a.toList]
  cases Op.bytesLess a.toList b.toList <;> rfl
theorem minS_self (a : ByteArray) : minS a a = a := by unfold minS; split <;> rfl
theorem maxS_self (a : ByteArray) : maxS a a = a := by unfold maxS; split <;> rfl
/-- The range of the first i tables, from a start. -/
def rgN (l : List TableRef) (s : ByteArray × ByteArray) : Nat → ByteArray × ByteArray
  | 0 => s
  | i + 1 => match l[i]? with
    | some t => (minS (rgN l s i).1 t.Low, maxS (rgN l s i).2 t.High)
    | none => rgN l s i
theorem rgN_succ (l : List TableRef) (s : ByteArray × ByteArray) (i : Nat) (h : i < l.length) : rgN l s (i + 1) = (minS (rgN l s i).1 l[i].Low, maxS (rgN l s i).2 l[i].High) := by
  simp only [rgN, List.getElem?_eq_getElem h]
def rgS (l : List TableRef) (i : Nat) : ByteArray × ByteArray := match i, l with
  | 0, _ => (⟨#[]⟩, ⟨#[]⟩)
  | _, [] => (⟨#[]⟩, ⟨#[]⟩)
  | i + 1, t :: l => rgN (t :: l) (t.Low, t.High) (i + 1)
def rg (l : List TableRef) : ByteArray × ByteArray := rgS l l.length
theorem rgS_one (l : List TableRef) (h : 0 < l.length) : rgS l 1 = (l[0].Low, l[0].High) := by
  match l, h with
  | t :: l, _ =>
    show rgN (t :: l) (t.Low, t.High) (0 + 1) = _
    rw [rgN_succ _ _ 0 (by simp)]
    simp [rgN, minS_self, maxS_self]
theorem rgS_succ (l : List TableRef) (i : Nat) (h0 : 0 < i) (h : i < l.length) : rgS l (i + 1) = (minS (rgS l i).1 l[i].Low, maxS (rgS l i).2 l[i].High) := by
  match l, i, h0, h with
  | t :: l, i + 1, _, h =>
    show rgN (t :: l) (t.Low, t.High) (i + 1 + 1) = _
    rw [rgN_succ _ _ (i + 1) h]
    rfl
def h_sRg (l : List TableRef) (lo up : ByteArray) (i : Int) : List V := ([.d (.arr (l.map rTableRef)), .dead, .dead, .dead, ST lo, ST up, IN i] ++ List.replicate 40 .dead : List V)
theorem f_sRange (l : List TableRef) (hl : l.length ≤ 1048576) : callL E 190 [.d (.arr (l.map rTableRef))] [] = some (.tup [ST (rg l).1, ST (rg l).2], []) := by
  refine callW (fu := Try.f190) rfl rfl rfl (l.length + 1) ?_
  intro lp cl hlp hcl
  generalize hN : l.length + 1 = N
  conv => lhs; whnf
  try rw [hlp]
  refine loop_rule (fun d t F => ∃ i : Nat, t = h_sRg l (rgS l i).1 (rgS l i).2 i ∧ F = [] ∧ d = l.length - i ∧ i ≤ l.length ∧ True) ?_ N (l.length) _ _ (by omega) ⟨h_sRg l (rgS l 0).1 (rgS l 0).2 0, ([]), fun k => by kernel_rfl, 0, rfl, rfl, by omega, by omega, trivial⟩
  rintro d t F ⟨i, rfl, rfl, rfl, hi, hinv⟩ next hnext
  conv => lhs; whnf
  split
  · rename_i h
    have hlt : i < l.length := by have := of_decide_eq_true h; simp at this; omega
    have hg := get_map rTableRef l i hlt
    have hn : IntKind.i64.wrap ((i : Int) + 1) = ((i + 1 : Nat) : Int) := wrap_nat i (by omega)
    conv => lhs; whnf
    cases c0 : ((i : Int) == 0)
    · have h0 : 0 < i := by simp at c0; omega
      have hs := rgS_succ l i h0 hlt
      have e1 := minS_eq (rgS l i).1 l[i].Low
      have e2 := maxS_eq (rgS l i).2 l[i].High
      conv => lhs; whnf
      repeat' (first
        | (rw [hg]; conv => lhs; whnf))
      cases c1 : Op.bytesLess l[i].Low.toList (rgS l i).1.toList
      · rw [c1] at e1
        conv => lhs; whnf
        rw [c0]
        conv => lhs; whnf
        repeat' (first
          | (rw [hg]; conv => lhs; whnf))
        cases c2 : !(Op.bytesLess l[i].High.toList (rgS l i).2.toList || l[i].High.toList == (rgS l i).2.toList)
        · rw [c2] at e2
          conv => lhs; whnf
          have hS : rgS l (i + 1) = ((rgS l i).1, (rgS l i).2) := by rw [hs, e1, e2]
          refine hnext (l.length - (i + 1)) _ _ (h_sRg l (rgS l i).1 (rgS l i).2 (IntKind.i64.wrap ((i : Int) + 1))) [] (by omega) (fun k => by kernel_rfl) ⟨i + 1, by rw [hn, hS], rfl, rfl, by omega, trivial⟩
        · rw [c2] at e2
          conv => lhs; whnf
          repeat' (first
            | (rw [hg]; conv => lhs; whnf))
          have hS : rgS l (i + 1) = ((rgS l i).1, l[i].High) := by rw [hs, e1, e2]
          refine hnext (l.length - (i + 1)) _ _ (h_sRg l (rgS l i).1 l[i].High (IntKind.i64.wrap ((i : Int) + 1))) [] (by omega) (fun k => by kernel_rfl) ⟨i + 1, by rw [hn, hS], rfl, rfl, by omega, trivial⟩
      · rw [c1] at e1
        conv => lhs; whnf
        repeat' (first
          | (rw [hg]; conv => lhs; whnf))
        rw [c0]
        conv => lhs; whnf
        repeat' (first
          | (rw [hg]; conv => lhs; whnf))
        cases c2 : !(Op.bytesLess l[i].High.toList (rgS l i).2.toList || l[i].High.toList == (rgS l i).2.toList)
        · rw [c2] at e2
          conv => lhs; whnf
          have hS : rgS l (i + 1) = (l[i].Low, (rgS l i).2) := by rw [hs, e1, e2]
          refine hnext (l.length - (i + 1)) _ _ (h_sRg l l[i].Low (rgS l i).2 (IntKind.i64.wrap ((i : Int) + 1))) [] (by omega) (fun k => by kernel_rfl) ⟨i + 1, by rw [hn, hS], rfl, rfl, by omega, trivial⟩
        · rw [c2] at e2
          conv => lhs; whnf
          repeat' (first
            | (rw [hg]; conv => lhs; whnf))
          have hS : rgS l (i + 1) = (l[i].Low, l[i].High) := by rw [hs, e1, e2]
          refine hnext (l.length - (i + 1)) _ _ (h_sRg l l[i].Low l[i].High (IntKind.i64.wrap ((i : Int) + 1))) [] (by omega) (fun k => by kernel_rfl) ⟨i + 1, by rw [hn, hS], rfl, rfl, by omega, trivial⟩
    · have h0 : i = 0 := by simp at c0; omega
      subst h0
      have hS := rgS_one l hlt
      conv => lhs; whnf
      repeat' (first
        | (rw [hg]; conv => lhs; whnf))
      rw [c0]
      conv => lhs; whnf
      repeat' (first
        | (rw [hg]; conv => lhs; whnf))
      refine hnext (l.length - (0 + 1)) _ _ (h_sRg l l[0].Low l[0].High (IntKind.i64.wrap (((0 : Nat) : Int) + 1))) [] (by omega) (fun k => by kernel_rfl) ⟨0 + 1, by rw [hn, hS], rfl, rfl, by omega, trivial⟩
  · rename_i h
    have hlt : i = l.length := by have := of_decide_eq_false h; simp at this; omega
    subst hlt
    show _ = _
    kernel_rfl
def h_iRg (l : List TableRef) (lo up : ByteArray) (i : Int) : List V := ([.dead, .dead, .dead, .dead, ST lo, ST up, .dead, .dead, .dead, .dead, .dead, .dead, .dead, .dead, .dead, .dead, .dead, .dead, .dead, .d (.arr (l.map rTableRef)), IN (l.map rTableRef).length, IN i] ++ List.replicate 14 .dead : List V)
theorem f_iRange1 (L : List TableRef) (ta : TableRef) (h0 : L[0]? = some ta) (hl : L.length ≤ 1048576) : callL E 206 [.d (.arr (L.map rTableRef))] [] = some (.tup [ST (rgN L (ta.Low, ta.High) L.length).1, ST (rgN L (ta.Low, ta.High) L.length).2], []) := by
  have hp : 0 < L.length := (List.getElem?_eq_some_iff.mp h0).1
  have hg0 : (L.map rTableRef)[(0 : Int).toNat]? = some (rTableRef ta) := by
    rw [show (0 : Int).toNat = 0 from rfl, List.getElem?_map, h0]; rfl
  have hz : ((((L.map rTableRef).length : Nat) : Int) == 0) = false := by
    rw [List.length_map]
    cases hc : ((L.length : Int) == 0)
    · rfl
    · have := eq_of_beq hc; omega
  refine callW (fu := Try.f206) rfl rfl rfl (L.length + 1) ?_
  intro lp cl hlp hcl
  generalize hN : L.length + 1 = N
  conv => lhs; whnf
  rw [hz]
  conv => lhs; whnf
  repeat' (first
    | (rw [hg0]; conv => lhs; whnf))
  try rw [hlp]
  refine loop_rule (fun d t F => ∃ i : Nat, t = h_iRg L (rgN L (ta.Low, ta.High) i).1 (rgN L (ta.Low, ta.High) i).2 i ∧ F = [] ∧ d = L.length - i ∧ i ≤ L.length ∧ True) ?_ N (L.length) _ _ (by omega) ⟨h_iRg L (rgN L (ta.Low, ta.High) 0).1 (rgN L (ta.Low, ta.High) 0).2 0, ([]), fun k => by kernel_rfl, 0, rfl, rfl, by omega, by omega, trivial⟩
  rintro d t F ⟨i, rfl, rfl, rfl, hi, hinv⟩ next hnext
  conv => lhs; whnf
  split
  · rename_i h
    have hlt : i < L.length := by have := of_decide_eq_true h; simp at this; omega
    have hg := get_map rTableRef L i hlt
    have hn : IntKind.i64.wrap ((i : Int) + 1) = ((i + 1 : Nat) : Int) := wrap_nat i (by omega)
    conv => lhs; whnf
    repeat' (first
      | (rw [hg]; conv => lhs; whnf))
    refine hnext (L.length - (i + 1)) _ _ (h_iRg L (minS (rgN L (ta.Low, ta.High) i).1 L[i].Low) (maxS (rgN L (ta.Low, ta.High) i).2 L[i].High) (IntKind.i64.wrap ((i : Int) + 1))) [] (by omega) (fun k => by kernel_rfl) ⟨i + 1, by rw [hn, rgN_succ _ _ i hlt], rfl, rfl, by omega, trivial⟩
  · rename_i h
    have hlt : i = L.length := by have := of_decide_eq_false h; simp at this; omega
    subst hlt
    show _ = _
    kernel_rfl
theorem f_iRange (l : List TableRef) (hl : l.length ≤ 1048576) : callL E 206 [.d (.arr (l.map rTableRef))] [] = some (.tup [ST (rg l).1, ST (rg l).2], []) := by
  match l, hl with
  | [], _ =>
    refine callW (fu := Try.f206) rfl rfl rfl (1) ?_
    intro lp cl hlp hcl
    conv => lhs; whnf
    show _ = _
    kernel_rfl
  | ta :: l', hl => exact f_iRange1 (ta :: l') ta rfl hl
def ovP (lo up : ByteArray) (t : TableRef) : Bool := Op.bytesLess t.Low.toList up.toList && Op.bytesLess lo.toList t.High.toList
theorem f_sOv (t : TableRef) (lo up : ByteArray) : callL E 205 [vTableRef t, ST lo, ST up] [] = some (BO (ovP lo up t), []) := by
  unfold ovP
  refine callW (fu := Try.f205) rfl rfl rfl (1) ?_
  intro lp cl hlp hcl
  conv => lhs; whnf
  cases c : Op.bytesLess t.Low.toList up.toList
  all_goals kernel_rfl
theorem f_iOv (t : TableRef) (lo up : ByteArray) : callL E 208 [vTableRef t, ST lo, ST up] [] = some (BO (ovP lo up t), []) := by
  unfold ovP
  refine callW (fu := Try.f208) rfl rfl rfl (1) ?_
  intro lp cl hlp hcl
  conv => lhs; whnf
  cases c : Op.bytesLess t.Low.toList up.toList
  all_goals kernel_rfl
def ovL (x : Version) (lv : Int) (r : ByteArray × ByteArray) : List TableRef := (atL x lv).filter (ovP r.1 r.2)
def h_sAt (x : Version) (lv : Int) (i : Int) : List V := ([.bp 0 0, IN lv, .dead, .dead, .dead, .sl 1, IN i] ++ List.replicate 31 .dead : List V)
theorem f_sAt (x : Version) (lv : Int) (hl : x.Tables.length ≤ 1048576) : callL E 156 [.bp 0 0, IN lv] (bV x) = some (.sl 1, bV x ++ [some (.arr 170 10 ((atL x lv).map rTableRef))]) := by
  refine callW (fu := Try.f156) rfl rfl rfl (x.Tables.length + 1) ?_
  intro lp cl hlp hcl
  generalize hN : x.Tables.length + 1 = N
  conv => lhs; whnf
  try rw [hlp]
  refine loop_rule (fun d t F => ∃ i : Nat, t = h_sAt x lv i ∧ F = bV x ++ [some (.arr 170 10 (((x.Tables.take i).filter fun t => t.Level == lv).map rTableRef))] ∧ d = x.Tables.length - i ∧ i ≤ x.Tables.length ∧ True) ?_ N (x.Tables.length) _ _ (by omega) ⟨h_sAt x lv 0, (bV x ++ [some (.arr 170 10 (((x.Tables.take 0).filter fun t => t.Level == lv).map rTableRef))]), fun k => by kernel_rfl, 0, rfl, rfl, by omega, by omega, trivial⟩
  rintro d t F ⟨i, rfl, rfl, rfl, hi, hinv⟩ next hnext
  conv => lhs; whnf
  split
  · rename_i h
    have hlt : i < x.Tables.length := by have := of_decide_eq_true h; simp at this; omega
    have hg := get_map rTableRef x.Tables i hlt
    have ht : x.Tables.take (i + 1) = x.Tables.take i ++ [x.Tables[i]] := List.take_succ_eq_append_getElem hlt
    have hn : IntKind.i64.wrap ((i : Int) + 1) = ((i + 1 : Nat) : Int) := wrap_nat i (by omega)
    have hle : ((x.Tables.take i).filter fun t => t.Level == lv).length ≤ i := Nat.le_trans (List.length_filter_le _ _) (by simp; omega)
    conv => lhs; whnf
    repeat' (first
      | (rw [hg]; conv => lhs; whnf))
    cases c : x.Tables[i].Level == lv
    · conv => lhs; whnf
      refine hnext (x.Tables.length - (i + 1)) _ _ (h_sAt x lv (IntKind.i64.wrap ((i : Int) + 1))) (bV x ++ [some (.arr 170 10 (((x.Tables.take i).filter fun t => t.Level == lv).map rTableRef))]) (by omega) (fun k => by kernel_rfl) ⟨i + 1, by rw [hn], by rw [ht, List.filter_append]; simp [c], rfl, by omega, trivial⟩
    · conv => lhs; whnf
      repeat' (first
        | (rw [hg]; conv => lhs; whnf))
      rw [appOk_of _ _ (by simp; omega)]
      conv => lhs; whnf
      refine hnext (x.Tables.length - (i + 1)) _ _ (h_sAt x lv (IntKind.i64.wrap ((i : Int) + 1))) (bV x ++ [some (.arr 170 10 (((x.Tables.take i).filter fun t => t.Level == lv).map rTableRef ++ [rTableRef x.Tables[i]]))]) (by omega) (fun k => by kernel_rfl) ⟨i + 1, by rw [hn], by rw [ht, List.filter_append]; simp [c], rfl, by omega, trivial⟩
  · rename_i h
    have hlt : i = x.Tables.length := by have := of_decide_eq_false h; simp at this; omega
    subst hlt
    unfold atL
    rw [List.take_length]
    show _ = _
    kernel_rfl
theorem atL_len (x : Version) (lv : Int) : (atL x lv).length ≤ x.Tables.length := List.length_filter_le _ _
theorem ovL_len (x : Version) (lv : Int) (r : ByteArray × ByteArray) : (ovL x lv r).length ≤ x.Tables.length := Nat.le_trans (List.length_filter_le _ _) (atL_len x lv)
def h_sOver (x : Version) (lv : Int) (lo up : ByteArray) (i : Int) : List V := ([.dead, .dead, ST lo, ST up, .dead, .dead, .dead, .dead, .dead, .sl 1, .sl 2, IN i] ++ List.replicate 25 .dead : List V)
theorem f_sOver (x : Version) (lv : Int) (lo up : ByteArray) (hl : x.Tables.length ≤ 1048576) : callL E 191 [.bp 0 0, IN lv, ST lo, ST up] (bV x) = some (.d (.arr ((ovL x lv (lo, up)).map rTableRef)), bV x) := by
  have hll := atL_len x lv
  unfold ovL
  refine callW (fu := Try.f191) rfl rfl rfl (x.Tables.length + 1) ?_
  intro lp cl hlp hcl
  generalize hN : x.Tables.length + 1 = N
  conv => lhs; whnf
  rw [cl_eq hcl (f_sAt x lv hl)]
  rotate_left
  · show _ = _
    kernel_rfl
  · show _ = _
    kernel_rfl
  conv => lhs; whnf
  generalize hL : atL x lv = L at *
  try rw [hlp]
  refine loop_rule (fun d t F => ∃ i : Nat, t = h_sOver x lv lo up i ∧ F = bV x ++ [some (.arr 170 10 (((L.take i).filter (ovP lo up)).map rTableRef)), some (.arr 170 10 (L.map rTableRef))] ∧ d = L.length - i ∧ i ≤ L.length ∧ True) ?_ N (L.length) _ _ (by omega) ⟨h_sOver x lv lo up 0, (bV x ++ [some (.arr 170 10 (((L.take 0).filter (ovP lo up)).map rTableRef)), some (.arr 170 10 (L.map rTableRef))]), fun k => by kernel_rfl, 0, rfl, rfl, by omega, by omega, trivial⟩
  rintro d t F ⟨i, rfl, rfl, rfl, hi, hinv⟩ next hnext
  conv => lhs; whnf
  split
  · rename_i h
    have hlt : i < L.length := by have := of_decide_eq_true h; simp at this; omega
    have hg := get_map rTableRef L i hlt
    have ht : L.take (i + 1) = L.take i ++ [L[i]] := List.take_succ_eq_append_getElem hlt
    have hn : IntKind.i64.wrap ((i : Int) + 1) = ((i + 1 : Nat) : Int) := wrap_nat i (by omega)
    have hle : ((L.take i).filter (ovP lo up)).length ≤ i := Nat.le_trans (List.length_filter_le _ _) (by simp; omega)
    conv => lhs; whnf
    repeat' (first
      | (rw [hg]; conv => lhs; whnf)
      | (rw [cl_eq hcl (f_sOv L[i] lo up)]; rotate_left; exact rfl; exact rfl; conv => lhs; whnf))
    cases c : ovP lo up L[i]
    · conv => lhs; whnf
      refine hnext (L.length - (i + 1)) _ _ (h_sOver x lv lo up (IntKind.i64.wrap ((i : Int) + 1))) (bV x ++ [some (.arr 170 10 (((L.take i).filter (ovP lo up)).map rTableRef)), some (.arr 170 10 (L.map rTableRef))]) (by omega) (fun k => by kernel_rfl) ⟨i + 1, by rw [hn], by rw [ht, List.filter_append]; simp [c], rfl, by omega, trivial⟩
    · conv => lhs; whnf
      repeat' (first
        | (rw [hg]; conv => lhs; whnf))
      rw [appOk_of _ _ (by simp; omega)]
      conv => lhs; whnf
      refine hnext (L.length - (i + 1)) _ _ (h_sOver x lv lo up (IntKind.i64.wrap ((i : Int) + 1))) (bV x ++ [some (.arr 170 10 (((L.take i).filter (ovP lo up)).map rTableRef ++ [rTableRef L[i]])), some (.arr 170 10 (L.map rTableRef))]) (by omega) (fun k => by kernel_rfl) ⟨i + 1, by rw [hn], by rw [ht, List.filter_append]; simp [c], rfl, by omega, trivial⟩
  · rename_i h
    have hlt : i = L.length := by have := of_decide_eq_false h; simp at this; omega
    subst hlt
    rw [List.take_length]
    show _ = _
    kernel_rfl
/-- The oldest table: of the least number. -/
def oldN (l : List TableRef) (t0 : TableRef) : Nat → TableRef
  | 0 => t0
  | n + 1 => match l[n + 1]? with
    | some t => match decide (t.Id < (oldN l t0 n).Id) with
      | true => t
      | false => oldN l t0 n
    | none => oldN l t0 n
theorem oldN_succ (l : List TableRef) (t0 : TableRef) (n : Nat) (h : n + 1 < l.length) : oldN l t0 (n + 1) = match decide (l[n + 1].Id < (oldN l t0 n).Id) with
    | true => l[n + 1]
    | false => oldN l t0 n := by
  simp only [oldN, List.getElem?_eq_getElem h]
def ownI (l : List TableRef) (lv : Int) : List TableRef := match l, (lv == 1) with
  | t :: l', true => [oldN (t :: l') t l'.length]
  | l, _ => l
def inpO (x : Version) (lv : Int) (l : List TableRef) : List TableRef := match l with
  | [] => []
  | l => l ++ ovL x (lv + 1) (rg l)
theorem inpO_ne (x : Version) (lv : Int) {l : List TableRef} (h : l ≠ []) : inpO x lv l = l ++ ovL x (lv + 1) (rg l) := by
  cases l with
  | nil => exact absurd rfl h
  | cons a l => rfl
def inpL (x : Version) (lv : Int) : List TableRef := match inR lv 0 1 with
  | false => []
  | true => inpO x lv (ownI (atL x lv) lv)
theorem ownI_len (l : List TableRef) (lv : Int) : (ownI l lv).length ≤ l.length := by
  unfold ownI
  split <;> simp
theorem ownI_one {l : List TableRef} {lv : Int} {t : TableRef} (h0 : l[0]? = some t) (h : (lv == 1) = true) : ownI l lv = [oldN l t (l.length - 1)] := by
  cases l with
  | nil => simp at h0
  | cons a l' =>
    have : a = t := by simpa using h0
    subst this
    simp [ownI, h]
theorem ownI_no {l : List TableRef} {lv : Int} (h : (lv == 1) = false ∨ l = []) : ownI l lv = l := by
  unfold ownI
  split
  · rename_i h2
    rcases h with h | h
    · rw [h2] at h; cases h
    · cases h
  · rfl
theorem inpL_len (x : Version) (lv : Int) : (inpL x lv).length ≤ 2 * x.Tables.length := by
  unfold inpL inpO
  split
  · simp
  · split
    · simp
    · have := ownI_len (atL x lv) lv
      have := atL_len x lv
      have := ovL_len x (lv + 1) (rg (ownI (atL x lv) lv))
      simp; omega
def h_sInp (x : Version) (lv : Int) (i : Int) : List V := ([.bp 0 0, IN lv, .dead, .dead, .dead, .sl 1, .bp 2 0, IN i] ++ List.replicate 56 .dead : List V)
set_option maxHeartbeats 1000000 in
theorem f_sInp (x : Version) (lv : Int) (hl : x.Tables.length ≤ 1048576) : callL E 162 [.bp 0 0, IN lv] (bV x) = some (.d (.arr ((inpL x lv).map rTableRef)), bV x) := by
  have hll := atL_len x lv
  unfold inpL
  refine callW (fu := Try.f162) rfl rfl rfl (x.Tables.length + 1) ?_
  intro lp cl hlp hcl
  generalize hN : x.Tables.length + 1 = N
  conv => lhs; whnf
  rw [cl_eq hcl (f_l00In lv 0 1)]
  rotate_left
  · show _ = _
    kernel_rfl
  · show _ = _
    kernel_rfl
  conv => lhs; whnf
  cases n1 : inR lv 0 1
  · show _ = _
    kernel_rfl
  conv => lhs; whnf
  rw [cl_eq hcl (f_sAt x lv hl)]
  rotate_left
  · show _ = _
    kernel_rfl
  · show _ = _
    kernel_rfl
  conv => lhs; whnf
  show _ = (some (V.d (D.arr ((inpO x lv (ownI (atL x lv) lv)).map rTableRef)), bV x) : Option (V × Fo))
  have hov := ovL_len x (lv + 1)
  generalize hL : atL x lv = L at *
  have hlv : IntKind.i64.wrap (lv + 1) = lv + 1 := by simp [inR] at n1; exact wrap_sm _ (by omega) (by omega)
  cases c1 : lv == 1
  · rw [ownI_no (.inl c1)]
    conv => lhs; whnf
    cases hz : (((L.map rTableRef).length : Int) == 0)
    · have hne : L ≠ [] := fun e => by subst e; cases hz
      conv => lhs; whnf
      rw [cl_eq hcl (f_sRange L (by omega))]
      rotate_left
      · show _ = _
        kernel_rfl
      · show _ = _
        kernel_rfl
      conv => lhs; whnf
      rw [hlv]
      rw [cl_eq hcl (f_sOver x (lv + 1) (rg L).1 (rg L).2 hl)]
      rotate_left
      · show _ = _
        kernel_rfl
      · show _ = _
        kernel_rfl
      conv => lhs; whnf
      have := hov ((rg L).1, (rg L).2)
      rw [appOk_of _ _ (by simp; omega)]
      conv => lhs; whnf
      rw [allLen_map rTableRef 10 rTableRef_len]
      conv => lhs; whnf
      rw [inpO_ne x lv hne, List.map_append]
      show _ = _
      kernel_rfl
    · have h0 : L = [] := by have := eq_of_beq hz; rw [List.length_map] at this; exact List.eq_nil_of_length_eq_zero (by omega)
      subst h0
      show _ = _
      kernel_rfl
  · conv => lhs; whnf
    cases hz : decide (((L.map rTableRef).length : Int) > 0)
    · have h0 : L = [] := by have := of_decide_eq_false hz; rw [List.length_map] at this; exact List.eq_nil_of_length_eq_zero (by omega)
      subst h0
      show _ = _
      kernel_rfl
    · have hp : 0 < L.length := by have := of_decide_eq_true hz; rw [List.length_map] at this; omega
      have hta : L[0]? = some L[0] := by simp [hp]
      generalize L[0] = ta at hta
      have hg0 : (L.map rTableRef)[(0 : Int).toNat]? = some (rTableRef ta) := by
        rw [show (0 : Int).toNat = 0 from rfl, List.getElem?_map, hta]; rfl
      rw [ownI_one hta c1]
      conv => lhs; whnf
      repeat' (first
        | (rw [hg0]; conv => lhs; whnf))
      try rw [hlp]
      refine loop_rule (fun d t F => ∃ n : Nat, t = h_sInp x lv ((n + 1 : Nat) : Int) ∧ F = bV x ++ [some (.arr 170 10 (L.map rTableRef)), some (.box (mapO .d (rTableRef (oldN L ta n))))] ∧ d = (L.length - 1) - n ∧ n ≤ (L.length - 1) ∧ True) ?_ N ((L.length - 1)) _ _ (by omega) ⟨h_sInp x lv ((0 + 1 : Nat) : Int), (bV x ++ [some (.arr 170 10 (L.map rTableRef)), some (.box (mapO .d (rTableRef (oldN L ta 0))))]), fun k => by kernel_rfl, 0, rfl, rfl, by omega, by omega, trivial⟩
      rintro d t F ⟨n, rfl, rfl, rfl, hin, hinvn⟩ nextn hnextn
      conv => lhs; whnf
      split
      · rename_i h
        have hlt : n + 1 < L.length := by have := of_decide_eq_true h; rw [List.length_map] at this; omega
        have hg := get_map rTableRef L (n + 1) hlt
        have hn : IntKind.i64.wrap (((n + 1 : Nat) : Int) + 1) = ((n + 1 + 1 : Nat) : Int) := wrap_nat (n + 1) (by omega)
        have hs := oldN_succ L ta n hlt
        conv => lhs; whnf
        repeat' (first
          | (rw [hg]; conv => lhs; whnf))
        cases c : decide (L[n + 1].Id < (oldN L ta n).Id)
        · rw [c] at hs
          conv => lhs; whnf
          refine hnextn (L.length - 1 - (n + 1)) _ _ (h_sInp x lv (IntKind.i64.wrap (((n + 1 : Nat) : Int) + 1))) (bV x ++ [some (.arr 170 10 (L.map rTableRef)), some (.box (mapO .d (rTableRef (oldN L ta n))))]) (by omega) (fun k => by kernel_rfl) ⟨n + 1, by rw [hn], by rw [hs], rfl, by omega, trivial⟩
        · rw [c] at hs
          conv => lhs; whnf
          repeat' (first
            | (rw [hg]; conv => lhs; whnf))
          refine hnextn (L.length - 1 - (n + 1)) _ _ (h_sInp x lv (IntKind.i64.wrap (((n + 1 : Nat) : Int) + 1))) (bV x ++ [some (.arr 170 10 (L.map rTableRef)), some (.box (mapO .d (rTableRef L[n + 1])))]) (by omega) (fun k => by kernel_rfl) ⟨n + 1, by rw [hn], by rw [hs], rfl, by omega, trivial⟩
      · rename_i h
        have hlt : n = L.length - 1 := by have := of_decide_eq_false h; rw [List.length_map] at this; omega
        rw [← hlt]
        generalize oldN L ta n = o at *
        conv => lhs; whnf
        rw [cl_eq hcl (f_sRange [o] (by simp))]
        rotate_left
        · show _ = _
          kernel_rfl
        · show _ = _
          kernel_rfl
        conv => lhs; whnf
        rw [hlv]
        rw [cl_eq hcl (f_sOver x (lv + 1) (rg [o]).1 (rg [o]).2 hl)]
        rotate_left
        · show _ = _
          kernel_rfl
        · show _ = _
          kernel_rfl
        conv => lhs; whnf
        have := hov ((rg [o]).1, (rg [o]).2)
        rw [appOk_of _ _ (by simp; omega)]
        conv => lhs; whnf
        rw [allLen_map rTableRef 10 rTableRef_len]
        conv => lhs; whnf
        show _ = _
        kernel_rfl
abbrev bS (a : ByteArray) : Option Root := some (.box [.d (dS a)])
def pOv (lo up : ByteArray) (t : TableRef) : Bool := !ovP lo up t
theorem f_ovClo (lo up : ByteArray) (o : TableRef) : callL E 207 [vTableRef o, .bp 0 0, .bp 1 0] [bS lo, bS up] = some (BO (pOv lo up o), [bS lo, bS up]) := by
  refine callW (fu := Try.f207) rfl rfl rfl (1) ?_
  intro lp cl hlp hcl
  conv => lhs; whnf
  rw [cl_eq hcl (f_iOv o lo up)]
  rotate_left
  · show _ = _
    kernel_rfl
  · show _ = _
    kernel_rfl
  show _ = _
  kernel_rfl
def h_idxOOv (l : List TableRef) (i : Int) : List V := ([.sl 0, .clo 207 [.bp 1 0, .bp 2 0], .dead, .dead, .dead, .dead, .dead, IN (l.map rTableRef).length, IN i] ++ List.replicate 10 .dead : List V)
theorem f_idxOOv (lo up : ByteArray) (l : List TableRef) (hl : l.length ≤ 1048576) : callL E 204 [.sl 0, .clo 207 [.bp 1 0, .bp 2 0]] (some (.arr 170 10 (l.map rTableRef)) :: [bS lo, bS up]) = some (IN (idxP (pOv lo up) l), some (.arr 170 10 (l.map rTableRef)) :: [bS lo, bS up]) := by
  refine callW (fu := Try.f204) rfl rfl rfl (l.length + 1) ?_
  intro lp cl hlp hcl
  generalize hN : l.length + 1 = N
  conv => lhs; whnf
  try rw [hlp]
  refine loop_rule (fun d t F => ∃ i : Nat, t = h_idxOOv l i ∧ F = some (.arr 170 10 (l.map rTableRef)) :: [bS lo, bS up] ∧ d = l.length - i ∧ i ≤ l.length ∧ ∀ j (hj : j < i) (h2 : j < l.length), pOv lo up l[j] = false) ?_ N (l.length) _ _ (by omega) ⟨h_idxOOv l 0, (some (.arr 170 10 (l.map rTableRef)) :: [bS lo, bS up]), fun k => by kernel_rfl, 0, rfl, rfl, by omega, by omega, fun j hj => by omega⟩
  rintro d t F ⟨i, rfl, rfl, rfl, hi, hinv⟩ next hnext
  conv => lhs; whnf
  split
  · rename_i h
    have hlt : i < l.length := by have := of_decide_eq_true h; simp at this; omega
    have hg := get_map rTableRef l i hlt
    conv => lhs; whnf
    repeat' (first
      | (rw [hg]; conv => lhs; whnf)
      | (rw [cl_eq hcl (f_ovClo lo up l[i])]; rotate_left; exact rfl; exact rfl; conv => lhs; whnf)
      | (split <;> rename_i hh <;> (try rw [hh]) <;> conv => lhs; whnf))
    · rw [idxP_some hlt hh (fun j hj => hinv j hj (by omega))]
      show _ = _
      kernel_rfl
    · refine hnext (l.length - (i + 1)) _ _ (h_idxOOv l (IntKind.i64.wrap ((i : Int) + 1))) (some (.arr 170 10 (l.map rTableRef)) :: [bS lo, bS up]) (by omega) (fun k => by kernel_rfl) ⟨i + 1, by rw [wrap_nat i (by omega)], rfl, rfl, by omega, fun j hj h3 => if e : j = i then by subst e; exact hh else hinv j (by omega) h3⟩
  · rename_i h
    have hlt : i = l.length := by have := of_decide_eq_false h; simp at this; omega
    subst hlt
    rw [idxP_none (fun j hj => hinv j hj hj)]
    show _ = _
    kernel_rfl
theorem f_delNOv (lo up : ByteArray) (l : List TableRef) (hl : l.length ≤ 1048576) (h : ∀ j (hj : j < l.length), pOv lo up l[j] = false) : callL E 187 [.sl 0, .clo 207 [.bp 1 0, .bp 2 0]] (some (.arr 170 10 (l.map rTableRef)) :: [bS lo, bS up]) = some (.sl 0, some (.arr 170 10 (l.map rTableRef)) :: [bS lo, bS up]) := by
  refine callW (fu := Try.f187) rfl rfl rfl (1) ?_
  intro lp cl hlp hcl
  conv => lhs; whnf
  rw [cl_eq hcl (f_idxOOv lo up l hl)]
  rotate_left
  · show _ = _
    kernel_rfl
  · show _ = _
    kernel_rfl
  conv => lhs; whnf
  rw [idxP_none h]
  show _ = _
  kernel_rfl
def h_delOv (i j : Int) : List V := ([.sl 0, .clo 207 [.bp 1 0, .bp 2 0], .dead, .dead, .dead, IN i, IN j] ++ List.replicate 35 .dead : List V)
set_option maxHeartbeats 4000000 in
theorem f_delYOv (lo up : ByteArray) (l : List TableRef) (hl : l.length ≤ 1048576) {i0 : Nat} (hi0 : i0 < l.length) (h1 : pOv lo up l[i0] = true) (h2 : ∀ j (hj : j < i0), pOv lo up (l[j]'(by omega)) = false) : callL E 187 [.sl 0, .clo 207 [.bp 1 0, .bp 2 0]] (some (.arr 170 10 (l.map rTableRef)) :: [bS lo, bS up]) = some (.sl (1 + List.length [bS lo, bS up]), (none :: [bS lo, bS up]) ++ [some (.arr 170 10 ((l.filter (fun x => !(pOv lo up x))).map rTableRef))]) := by
  refine callW (fu := Try.f187) rfl rfl rfl (l.length + 1) ?_
  intro lp cl hlp hcl
  generalize hN : l.length + 1 = N
  conv => lhs; whnf
  rw [cl_eq hcl (f_idxOOv lo up l hl)]
  rotate_left
  · show _ = _
    kernel_rfl
  · show _ = _
    kernel_rfl
  conv => lhs; whnf
  rw [idxP_some hi0 h1 h2]
  have e1 : ((i0 : Int) == -1) = false := by first | (simp; done) | (simp; omega)
  have e2 : IntKind.i64.wrap ((i0 : Int) + 1) = ((i0 + 1 + 0 : Nat) : Int) := by rw [wrap_nat i0 (by omega)]
  rw [e1]
  conv => lhs; whnf
  rw [e2]
  try rw [hlp]
  refine loop_rule (fun d t F => ∃ n : Nat, t = h_delOv ((delS (pOv lo up) l i0 n).2 : Nat) ((i0 + 1 + n : Nat) : Int) ∧ F = some (.arr 170 10 ((delS (pOv lo up) l i0 n).1.map rTableRef)) :: [bS lo, bS up] ∧ d = (l.length - (i0 + 1)) - n ∧ n ≤ (l.length - (i0 + 1)) ∧ True) ?_ N ((l.length - (i0 + 1))) _ _ (by omega) ⟨h_delOv ((delS (pOv lo up) l i0 0).2 : Nat) ((i0 + 1 + 0 : Nat) : Int), (some (.arr 170 10 ((delS (pOv lo up) l i0 0).1.map rTableRef)) :: [bS lo, bS up]), fun k => by kernel_rfl, 0, rfl, rfl, by omega, by omega, trivial⟩
  rintro d t F ⟨n, rfl, rfl, rfl, hin, hinvn⟩ nextn hnextn
  conv => lhs; whnf
  obtain ⟨k1, k2, k3, k4⟩ := delS_ok hi0 h1 h2 n (by omega)
  have hS := delS_step (pOv lo up) l i0 n
  generalize hD1 : (delS (pOv lo up) l i0 n).1 = S at *
  generalize hD2 : (delS (pOv lo up) l i0 n).2 = w at *
  split
  · rename_i h
    have hlt : i0 + 1 + n < l.length := by have := of_decide_eq_true h; simp at this; omega
    have hS := hS hlt
    have hj : S[i0 + 1 + n]? = l[i0 + 1 + n]? := by
      have := congrArg (fun x => x[0]?) k4
      simpa [List.getElem?_drop] using this
    have hgj : (S.map rTableRef)[((i0 + 1 + n : Nat) : Int).toNat]? = some (rTableRef l[i0 + 1 + n]) := by
      rw [Int.toNat_natCast, List.getElem?_map, hj, List.getElem?_eq_getElem hlt]; rfl
    have wr2 : IntKind.i64.wrap (((i0 + 1 + n : Nat) : Int) + 1) = ((i0 + 1 + (n + 1) : Nat) : Int) := wrap_nat (i0 + 1 + n) (by omega)
    conv => lhs; whnf
    repeat' (first
      | (rw [hgj]; conv => lhs; whnf)
      | (rw [cl_eq hcl (f_ovClo lo up l[i0 + 1 + n])]; rotate_left; exact rfl; exact rfl; conv => lhs; whnf))
    cases hp : pOv lo up l[i0 + 1 + n]
    · rw [hp] at hS
      have hw : w < S.length := by omega
      have hgi := get_map rTableRef S w hw
      have wr1 : IntKind.i64.wrap ((w : Int) + 1) = ((w + 1 : Nat) : Int) := wrap_nat w (by omega)
      conv => lhs; whnf
      repeat' (first
        | (rw [hgi]; conv => lhs; whnf))
      rw [wr1, wr2]
      replace hS : delS (pOv lo up) l i0 (n + 1) = (S.set w l[i0 + 1 + n], w + 1) := hS
      refine hnextn (l.length - (i0 + 1) - (n + 1)) _ _ (h_delOv ((w + 1 : Nat) : Int) ((i0 + 1 + (n + 1) : Nat) : Int)) (some (.arr 170 10 ((S.set w l[i0 + 1 + n]).map rTableRef)) :: [bS lo, bS up]) (by omega) (fun k => ?_) ⟨n + 1, by rw [hS], by rw [hS], rfl, by omega, trivial⟩
      rw [List.map_set]
      show _ = _
      kernel_rfl
    · rw [hp] at hS
      conv => lhs; whnf
      rw [wr2]
      refine hnextn (l.length - (i0 + 1) - (n + 1)) _ _ (h_delOv (w : Int) ((i0 + 1 + (n + 1) : Nat) : Int)) (some (.arr 170 10 (S.map rTableRef)) :: [bS lo, bS up]) (by omega) (fun k => ?_) ⟨n + 1, by rw [hS, hD2], by rw [hS, hD1], rfl, by omega, trivial⟩
      show _ = _
      kernel_rfl
  · rename_i h
    have heq : i0 + 1 + n = l.length := by have := of_decide_eq_false h; simp at this; omega
    have hw : w < S.length := by omega
    have d1 : decide ((0 : Int) ≤ (w : Int)) = true := decide_eq_true (by omega)
    have d2 : decide ((w : Int) < ((S.map rTableRef).length : Int)) = true := decide_eq_true (by simp; omega)
    have d3 : ∀ z : List D, decide ((w : Int) ≤ ((List.take (w : Int).toNat (S.map rTableRef) ++ List.replicate ((S.map rTableRef).length - (w : Int).toNat) z).length : Int)) = true := fun z => decide_eq_true (by simp; omega)
    have hfin : ∀ z : List D, List.take (w : Int).toNat (List.take (w : Int).toNat (S.map rTableRef) ++ List.replicate ((S.map rTableRef).length - (w : Int).toNat) z) = (l.filter (fun x => !(pOv lo up x))).map rTableRef := fun z => by
      rw [heq, List.take_length] at k3
      rw [← k3, List.map_take, Int.toNat_natCast, List.take_append_of_le_length (by simp; omega), List.take_take, Nat.min_self]
    conv => lhs; whnf
    repeat' (first
      | (rw [d1]; conv => lhs; whnf)
      | (rw [d2]; conv => lhs; whnf)
      | (rw [d3]; conv => lhs; whnf))
    refine Eq.trans (b := some (.sl (1 + List.length [bS lo, bS up]), (none :: [bS lo, bS up]) ++ [some (.arr 170 10 (List.take (w : Int).toNat (List.take (w : Int).toNat (S.map rTableRef) ++ List.replicate ((S.map rTableRef).length - (w : Int).toNat) (rTableRef ⟨0, 0, 0, 0, 0, ⟨#[]⟩, ⟨#[]⟩, 0, 0, 0⟩))))])) (by kernel_rfl) (by rw [hfin])
theorem ovL_not (x : Version) (lv : Int) (r : ByteArray × ByteArray) : ((atL x lv).filter fun t => !(pOv r.1 r.2 t)) = ovL x lv r := by
  unfold ovL
  congr 1
  funext t
  simp [pOv]
theorem f_iOver (x : Version) (lv : Int) (l : List TableRef) (hl : x.Tables.length ≤ 1048576) (hl2 : l.length ≤ 1048576) : callL E 192 [oVersion x, IN lv, .sl 1] (FVersion x ++ [some (.arr 170 10 (l.map rTableRef))]) = some (.sl 2, FVersion x ++ [some (.arr 170 10 (l.map rTableRef)), some (.arr 170 10 ((ovL x lv (rg l)).map rTableRef))]) := by
  have hll := atL_len x lv
  rw [← ovL_not]
  refine callW (fu := Try.f192) rfl rfl rfl (1) ?_
  intro lp cl hlp hcl
  conv => lhs; whnf
  rw [cl_eq hcl (f_iRange l hl2)]
  rotate_left
  · show _ = _
    kernel_rfl
  · show _ = _
    kernel_rfl
  conv => lhs; whnf
  rw [cl_eq hcl (f_iAt x lv hl)]
  rotate_left
  · show _ = _
    kernel_rfl
  · show _ = _
    kernel_rfl
  conv => lhs; whnf
  generalize atL x lv = L at *
  rcases first_of (pOv (rg l).1 (rg l).2) L with h | ⟨i, hi, h1, h2⟩
  · rw [cl_eq hcl (f_delNOv (rg l).1 (rg l).2 L (by omega) h)]
    rotate_left
    · show _ = _
      kernel_rfl
    · show _ = _
      kernel_rfl
    conv => lhs; whnf
    rw [List.filter_eq_self.mpr (fun a ha => by
      obtain ⟨j, hj, rfl⟩ := List.mem_iff_getElem.mp ha
      simp [h j hj])]
    show _ = _
    kernel_rfl
  · rw [cl_eq hcl (f_delYOv (rg l).1 (rg l).2 L (by omega) hi h1 h2)]
    rotate_left
    · show _ = _
      kernel_rfl
    · show _ = _
      kernel_rfl
    show _ = _
    kernel_rfl
theorem f_inClo (a b : TableRef) : callL E 194 [vTableRef a, vTableRef b] [] = some (IN (IntKind.i64.wrap (a.Id - b.Id)), []) := by
  refine callW (fu := Try.f194) rfl rfl rfl (1) ?_
  intro lp cl hlp hcl
  conv => lhs; whnf
  show _ = _
  kernel_rfl
theorem oldN_mem {l : List TableRef} {ta : TableRef} (h0 : l[0]? = some ta) : ∀ n, n < l.length → oldN l ta n ∈ l
  | 0, _ => List.mem_of_getElem? h0
  | n + 1, h => by
    rw [oldN_succ l ta n h]
    split
    · exact List.getElem_mem h
    · exact oldN_mem h0 n (by omega)
def h_min (l : List TableRef) (i : Int) : List V := ([.d (.arr (l.map rTableRef)), .clo 194 [], .dead, .dead, .bp 0 0, .bp 1 0, IN i] ++ List.replicate 26 .dead : List V)
abbrev zT : TableRef := ⟨0, 0, 0, 0, 0, ⟨#[]⟩, ⟨#[]⟩, 0, 0, 0⟩
theorem f_Min (L : List TableRef) (ta : TableRef) (h0 : L[0]? = some ta) (hl : L.length ≤ 1048576) (ids : ∀ t ∈ L, 1 ≤ t.Id ∧ t.Id ≤ 1000000) : callL E 193 [.d (.arr (L.map rTableRef)), .clo 194 []] [] = some (vTableRef (oldN L ta (L.length - 1)), []) := by
  have hp : 0 < L.length := (List.getElem?_eq_some_iff.mp h0).1
  have hg0 : (L.map rTableRef)[(0 : Int).toNat]? = some (rTableRef ta) := by
    rw [show (0 : Int).toNat = 0 from rfl, List.getElem?_map, h0]; rfl
  have hz : decide ((((L.map rTableRef).length : Nat) : Int) < 1) = false := decide_eq_false (by rw [List.length_map]; omega)
  refine callW (fu := Try.f193) rfl rfl rfl (L.length + 1) ?_
  intro lp cl hlp hcl
  generalize hN : L.length + 1 = N
  conv => lhs; whnf
  rw [hz]
  conv => lhs; whnf
  repeat' (first
    | (rw [hg0]; conv => lhs; whnf))
  try rw [hlp]
  refine loop_rule (fun d t F => ∃ n : Nat, t = h_min L ((n + 1 : Nat) : Int) ∧ F = [some (.box (mapO .d (rTableRef zT))), some (.box (mapO .d (rTableRef (oldN L ta n))))] ∧ d = (L.length - 1) - n ∧ n ≤ (L.length - 1) ∧ True) ?_ N ((L.length - 1)) _ _ (by omega) ⟨h_min L ((0 + 1 : Nat) : Int), ([some (.box (mapO .d (rTableRef zT))), some (.box (mapO .d (rTableRef (oldN L ta 0))))]), fun k => by kernel_rfl, 0, rfl, rfl, by omega, by omega, trivial⟩
  rintro d t F ⟨n, rfl, rfl, rfl, hin, hinvn⟩ nextn hnextn
  conv => lhs; whnf
  split
  · rename_i h
    have hlt : n + 1 < L.length := by have := of_decide_eq_true h; rw [List.length_map] at this; omega
    have hg := get_map rTableRef L (n + 1) hlt
    have hn : IntKind.i64.wrap (((n + 1 : Nat) : Int) + 1) = ((n + 1 + 1 : Nat) : Int) := wrap_nat (n + 1) (by omega)
    have hs := oldN_succ L ta n hlt
    have i1 := ids _ (List.getElem_mem hlt)
    have i2 := ids _ (oldN_mem h0 n (by omega))
    have hw : IntKind.i64.wrap (L[n + 1].Id - (oldN L ta n).Id) = L[n + 1].Id - (oldN L ta n).Id := wrap_sm _ (by omega) (by omega)
    have hd : decide (L[n + 1].Id - (oldN L ta n).Id < 0) = decide (L[n + 1].Id < (oldN L ta n).Id) := by congr 1; exact propext (by omega)
    conv => lhs; whnf
    repeat' (first
      | (rw [hg]; conv => lhs; whnf)
      | (rw [cl_eq hcl (f_inClo L[n + 1] (oldN L ta n))]; rotate_left; exact rfl; exact rfl; conv => lhs; whnf))
    rw [hw, hd]
    cases c : decide (L[n + 1].Id < (oldN L ta n).Id)
    · rw [c] at hs
      conv => lhs; whnf
      refine hnextn (L.length - 1 - (n + 1)) _ _ (h_min L (IntKind.i64.wrap (((n + 1 : Nat) : Int) + 1))) [some (.box (mapO .d (rTableRef zT))), some (.box (mapO .d (rTableRef (oldN L ta n))))] (by omega) (fun k => by kernel_rfl) ⟨n + 1, by rw [hn], by rw [hs], rfl, by omega, trivial⟩
    · rw [c] at hs
      conv => lhs; whnf
      repeat' (first
        | (rw [hg]; conv => lhs; whnf))
      refine hnextn (L.length - 1 - (n + 1)) _ _ (h_min L (IntKind.i64.wrap (((n + 1 : Nat) : Int) + 1))) [some (.box (mapO .d (rTableRef zT))), some (.box (mapO .d (rTableRef L[n + 1])))] (by omega) (fun k => by kernel_rfl) ⟨n + 1, by rw [hn], by rw [hs], rfl, by omega, trivial⟩
  · rename_i h
    have hlt : n = L.length - 1 := by have := of_decide_eq_false h; rw [List.length_map] at this; omega
    rw [← hlt]
    show _ = _
    kernel_rfl
theorem f_Grow (n : Int) (h0 : 0 ≤ n) (h1 : n ≤ 1048576) : callL E 209 [.d (.lit (.slice none 0 0)), IN n] [] = some (.sl 0, [some (.arr 170 10 [])]) :=
  callX rfl (by
    have a1 : decide (0 ≤ n) = true := decide_eq_true h0
    have a2 : decide (n ≤ 4611686018427387904) = true := decide_eq_true (by omega)
    have a3 : appOk n.toNat 96 = true := appOk_of _ _ (by omega)
    unfold extGrow
    simp only [a1, a2, a3]
    rfl)
abbrev cD (a b : List TableRef) : List (List D) := [[.arr (a.map rTableRef)], [.arr (b.map rTableRef)]]
def cSz (a b : List TableRef) : Nat → Int
  | 0 => 0
  | 1 => ((a.length : Nat) : Int)
  | _ => ((a.length + b.length : Nat) : Int)
def cAcc (a b : List TableRef) : Nat → List TableRef
  | 0 => []
  | 1 => a
  | _ => a ++ b
def h_c1 (a b : List TableRef) (n i : Int) : List V := ([.d (.arr (cD a b)), .dead, .dead, IN n, .dead, .dead, .dead, .dead, .dead, .d (.arr (cD a b)), IN 2, IN i] ++ List.replicate 24 .dead : List V)
def h_c2 (a b : List TableRef) (i : Int) : List V := ([.dead, .dead, .dead, .dead, .dead, .dead, .sl 0, .dead, .dead, .dead, .dead, .dead, .dead, .dead, .dead, .dead, .dead, .dead, .dead, .dead, .dead, .dead, .dead, .dead, .dead, .d (.arr (cD a b)), IN 2, IN i] ++ List.replicate 8 .dead : List V)
theorem f_Concat (a b : List TableRef) (ha : a.length ≤ 4096) (hb : b.length ≤ 4096) : callL E 195 [.d (.arr (cD a b))] [] = some (.sl 0, [some (.arr 170 10 ((a ++ b).map rTableRef))]) := by
  have w1 : IntKind.i64.wrap (cSz a b 0 + ((a.map rTableRef).length : Int)) = ((a.length : Nat) : Int) := by rw [show cSz a b 0 = 0 from rfl, List.length_map, wrap_sm _ (by omega) (by omega)]; omega
  have w2 : IntKind.i64.wrap (cSz a b 1 + ((b.map rTableRef).length : Int)) = ((a.length + b.length : Nat) : Int) := by rw [show cSz a b 1 = ((a.length : Nat) : Int) from rfl, List.length_map, wrap_sm _ (by omega) (by omega)]; omega
  have d1 : decide (((a.length : Nat) : Int) < 0) = false := decide_eq_false (by omega)
  have d2 : decide (((a.length + b.length : Nat) : Int) < 0) = false := decide_eq_false (by omega)
  refine callW (fu := Try.f195) rfl rfl rfl ([a, b].length + 1) ?_
  intro lp cl hlp hcl
  generalize hN : [a, b].length + 1 = N
  conv => lhs; whnf
  have hN2 : 3 = N := hN
  try rw [hlp]
  refine loop_rule (fun d t F => ∃ i : Nat, t = h_c1 a b (cSz a b i) i ∧ F = [] ∧ d = 2 - i ∧ i ≤ 2 ∧ True) ?_ N (2) _ _ (by omega) ⟨h_c1 a b (cSz a b 0) 0, ([]), fun k => by kernel_rfl, 0, rfl, rfl, by omega, by omega, trivial⟩
  rintro d t F ⟨i, rfl, rfl, rfl, hi, hinv⟩ next hnext
  conv => lhs; whnf
  split
  · rename_i h
    have hlt : i = 0 ∨ i = 1 := by have : (i : Int) < 2 := of_decide_eq_true h; omega
    rcases hlt with rfl | rfl
    · conv => lhs; whnf
      rw [w1, d1]
      conv => lhs; whnf
      refine hnext (2 - (0 + 1)) _ _ (h_c1 a b ((a.length : Nat) : Int) 1) [] (by omega) (fun k => by kernel_rfl) ⟨0 + 1, rfl, rfl, rfl, by omega, trivial⟩
    · conv => lhs; whnf
      rw [w2, d2]
      conv => lhs; whnf
      refine hnext (2 - (1 + 1)) _ _ (h_c1 a b ((a.length + b.length : Nat) : Int) 2) [] (by omega) (fun k => by kernel_rfl) ⟨1 + 1, rfl, rfl, rfl, by omega, trivial⟩
  · rename_i h
    have hlt : i = 2 := by have : ¬ (i : Int) < 2 := of_decide_eq_false h; omega
    subst hlt
    rw [show cSz a b 2 = ((a.length + b.length : Nat) : Int) from rfl]
    generalize hn : ((a.length + b.length : Nat) : Int) = n
    rw [← hlp]
    conv => lhs; whnf
    rw [cl_eq hcl (f_Grow n (by omega) (by omega))]
    rotate_left
    · show _ = _
      kernel_rfl
    · show _ = _
      kernel_rfl
    conv => lhs; whnf
    try rw [hlp]
    refine loop_rule (fun d t F => ∃ k : Nat, t = h_c2 a b k ∧ F = [some (.arr 170 10 ((cAcc a b k).map rTableRef))] ∧ d = 2 - k ∧ k ≤ 2 ∧ True) ?_ N (2) _ _ (by omega) ⟨h_c2 a b 0, ([some (.arr 170 10 ((cAcc a b 0).map rTableRef))]), fun k => by kernel_rfl, 0, rfl, rfl, by omega, by omega, trivial⟩
    rintro d t F ⟨k, rfl, rfl, rfl, hik, hinvk⟩ nextk hnextk
    conv => lhs; whnf
    split
    · rename_i h
      have hlt : k = 0 ∨ k = 1 := by have : (k : Int) < 2 := of_decide_eq_true h; omega
      rcases hlt with rfl | rfl
      · conv => lhs; whnf
        rw [appOk_of _ _ (by simp [cAcc]; omega)]
        conv => lhs; whnf
        rw [allLen_map rTableRef 10 rTableRef_len]
        conv => lhs; whnf
        refine hnextk (2 - (0 + 1)) _ _ (h_c2 a b 1) [some (.arr 170 10 (a.map rTableRef))] (by omega) (fun k => by kernel_rfl) ⟨0 + 1, rfl, rfl, rfl, by omega, trivial⟩
      · conv => lhs; whnf
        rw [appOk_of _ _ (by simp [cAcc]; omega)]
        conv => lhs; whnf
        rw [allLen_map rTableRef 10 rTableRef_len]
        conv => lhs; whnf
        refine hnextk (2 - (1 + 1)) _ _ (h_c2 a b 2) [some (.arr 170 10 (a.map rTableRef ++ b.map rTableRef))] (by omega) (fun k => by kernel_rfl) ⟨1 + 1, rfl, by rw [← List.map_append]; rfl, rfl, by omega, trivial⟩
    · rename_i h
      have hlt : k = 2 := by have : ¬ (k : Int) < 2 := of_decide_eq_false h; omega
      subst hlt
      show _ = _
      kernel_rfl
theorem ok_ids {x : Version} (g : okVer x = true) : ∀ t ∈ x.Tables, 1 ≤ t.Id ∧ t.Id ≤ 1000000 := by
  intro t ht
  unfold okVer okTabs at g
  simp only [Bool.and_eq_true] at g
  obtain ⟨i, hi, rfl⟩ := List.mem_iff_getElem.mp ht
  have := ((pB_iff.mp g.2.2.2).2 i hi).1
  unfold okTab at this
  have := of_decide_eq_true this
  omega
set_option maxHeartbeats 1000000 in
theorem f_iInp (x : Version) (lv : Int) (g : okVer x = true) : callL E 163 [oVersion x, IN lv] (FVersion x) = some (.sl 1, FVersion x ++ [some (.arr 170 10 ((inpL x lv).map rTableRef))]) := by
  have hx := okTab_len x g
  have hll := atL_len x lv
  have ids : ∀ t ∈ atL x lv, 1 ≤ t.Id ∧ t.Id ≤ 1000000 := fun t ht => ok_ids g t (List.mem_filter.mp (show t ∈ x.Tables.filter (fun t => t.Level == lv) from ht)).1
  unfold inpL
  refine callW (fu := Try.f163) rfl rfl rfl (1) ?_
  intro lp cl hlp hcl
  conv => lhs; whnf
  rw [cl_eq hcl (f_within lv 0 1)]
  rotate_left
  · show _ = _
    kernel_rfl
  · show _ = _
    kernel_rfl
  conv => lhs; whnf
  cases n1 : inR lv 0 1
  · show _ = _
    kernel_rfl
  conv => lhs; whnf
  rw [cl_eq hcl (f_iAt x lv (by omega))]
  rotate_left
  · show _ = _
    kernel_rfl
  · show _ = _
    kernel_rfl
  conv => lhs; whnf
  show _ = (some (V.sl 1, FVersion x ++ [some (.arr 170 10 ((inpO x lv (ownI (atL x lv) lv)).map rTableRef))]) : Option (V × Fo))
  have hov := ovL_len x (lv + 1)
  generalize hL : atL x lv = L at *
  have hlv : IntKind.i64.wrap (lv + 1) = lv + 1 := by simp [inR] at n1; exact wrap_sm _ (by omega) (by omega)
  cases hz : (((L.map rTableRef).length : Int) == 0)
  rotate_left
  · have h0 : L = [] := by have := eq_of_beq hz; rw [List.length_map] at this; exact List.eq_nil_of_length_eq_zero (by omega)
    subst h0
    rw [ownI_no (.inr rfl)]
    show _ = _
    kernel_rfl
  have hne : L ≠ [] := fun e => by subst e; cases hz
  have hp : 0 < L.length := List.length_pos_iff.mpr hne
  conv => lhs; whnf
  cases c1 : decide (lv > 0)
  · have hl1 : (lv == 1) = false := by
      have := of_decide_eq_false c1
      cases hq : (lv == 1)
      · rfl
      · have := eq_of_beq hq; omega
    rw [ownI_no (.inl hl1)]
    have := hov (rg L)
    conv => lhs; whnf
    rw [hlv]
    rw [cl_eq hcl (f_iOver x (lv + 1) L (by omega) (by omega))]
    rotate_left
    · show _ = _
      kernel_rfl
    · show _ = _
      kernel_rfl
    conv => lhs; whnf
    rw [cl_eq hcl (f_Concat L (ovL x (lv + 1) (rg L)) (by omega) (by omega))]
    rotate_left
    · show _ = _
      kernel_rfl
    · show _ = _
      kernel_rfl
    conv => lhs; whnf
    rw [inpO_ne x lv hne]
    show _ = _
    kernel_rfl
  · have hl1 : (lv == 1) = true := by
      have := of_decide_eq_true c1
      simp [inR] at n1
      exact beq_iff_eq.mpr (by omega)
    have hta : L[0]? = some L[0] := by simp [hp]
    generalize L[0] = ta at hta
    rw [ownI_one hta hl1]
    conv => lhs; whnf
    rw [cl_eq hcl (f_Min L ta hta (by omega) ids)]
    rotate_left
    · show _ = _
      kernel_rfl
    · show _ = _
      kernel_rfl
    conv => lhs; whnf
    generalize oldN L ta (L.length - 1) = o
    have := hov (rg [o])
    rw [hlv]
    rw [cl_eq hcl (f_iOver x (lv + 1) [o] (by omega) (by simp))]
    rotate_left
    · show _ = _
      kernel_rfl
    · show _ = _
      kernel_rfl
    conv => lhs; whnf
    rw [cl_eq hcl (f_Concat [o] (ovL x (lv + 1) (rg [o])) (by simp) (by omega))]
    rotate_left
    · show _ = _
      kernel_rfl
    · show _ = _
      kernel_rfl
    conv => lhs; whnf
    show _ = _
    kernel_rfl
noncomputable def inpR (x : Version) (lv : Int) : List TableRef := match okVer x with
  | true => inpL x lv
  | false => []
theorem inpR_len (x : Version) (lv : Int) : (inpR x lv).length ≤ 32 := by
  unfold inpR
  split
  · rename_i g
    have := inpL_len x lv
    have := okTab_len x g
    omega
  · simp
theorem f_sIO (x : Version) (lv : Int) (hl : x.Tables.length ≤ 1048576) : callL E 87 [vVersion x, IN lv] [] = some (.d (.arr ((inpR x lv).map rTableRef)), []) := by
  unfold inpR
  refine callW (fu := Try.f87) rfl rfl rfl (1) ?_
  intro lp cl hlp hcl
  conv => lhs; whnf
  rw [cl_eq hcl (f_sVer x)]
  rotate_left
  · show _ = _
    kernel_rfl
  · show _ = _
    kernel_rfl
  conv => lhs; whnf
  cases g : okVer x
  · show _ = _
    kernel_rfl
  · conv => lhs; whnf
    rw [cl_eq hcl (f_sInp x lv hl)]
    rotate_left
    · show _ = _
      kernel_rfl
    · show _ = _
      kernel_rfl
    show _ = _
    kernel_rfl
theorem f_iIO (x : Version) (lv : Int) (hl : x.Tables.length ≤ 1048576) : callL E 88 [oVersion x, IN lv] (FVersion x) = some (.sl 1, FVersion x ++ [some (.arr 170 10 ((inpR x lv).map rTableRef))]) := by
  unfold inpR
  refine callW (fu := Try.f88) rfl rfl rfl (1) ?_
  intro lp cl hlp hcl
  conv => lhs; whnf
  rw [cl_eq hcl (f_iVer x hl)]
  rotate_left
  · show _ = _
    kernel_rfl
  · show _ = _
    kernel_rfl
  conv => lhs; whnf
  cases g : okVer x
  · show _ = _
    kernel_rfl
  · conv => lhs; whnf
    rw [cl_eq hcl (f_iInp x lv g)]
    rotate_left
    · show _ = _
      kernel_rfl
    · show _ = _
      kernel_rfl
    show _ = _
    kernel_rfl
theorem oldN_or {l : List TableRef} {ta : TableRef} (h0 : l[0]? = some ta) (hp : 0 < l.length) : oldN l ta (l.length - 1) ∈ l := oldN_mem h0 _ (by omega)
theorem totL_app {α : Type} (f : α → Nat) (a b : List α) : totL f (a ++ b) = totL f a + totL f b := by
  unfold totL; simp only [List.length_append, List.map_append, List.sum_append]; omega
theorem totL_one {α : Type} (f : α → Nat) {a : α} {l : List α} (h : a ∈ l) : totL f [a] ≤ totL f l := by
  induction l with
  | nil => cases h
  | cons b l ih =>
    rcases List.mem_cons.mp h with rfl | h
    · unfold totL; simp only [List.length_cons, List.map_cons, List.sum_cons, List.length_nil, List.map_nil, List.sum_nil]; omega
    · have := ih h
      unfold totL at *; simp only [List.length_cons, List.map_cons, List.sum_cons, List.length_nil, List.map_nil, List.sum_nil] at *; omega
theorem ownI_tot (l : List TableRef) (lv : Int) : totL totTableRef (ownI l lv) ≤ totL totTableRef l := by
  unfold ownI
  split
  · rename_i t l' _
    exact totL_one _ (oldN_mem (by rfl) _ (by simp))
  · exact Nat.le_refl _
theorem lev_tot (l : List TableRef) (a b : Int) (h : a ≠ b) (p : TableRef → Bool) : totL totTableRef (l.filter fun t => t.Level == a) + totL totTableRef ((l.filter fun t => t.Level == b).filter p) ≤ totL totTableRef l := by
  induction l with
  | nil => exact Nat.le_refl _
  | cons t l ih =>
    by_cases h1 : t.Level = a
    · have h2 : (t.Level == b) = false := by rw [h1]; simpa using h
      have h3 : (t.Level == a) = true := by simpa using h1
      simp only [List.filter_cons, h2, h3, if_true, Bool.false_eq_true, if_false]
      unfold totL at *; simp only [List.length_cons, List.map_cons, List.sum_cons] at *; omega
    · have h3 : (t.Level == a) = false := by simpa using h1
      simp only [List.filter_cons, h3, Bool.false_eq_true, if_false]
      split
      · rw [List.filter_cons]
        split
        · unfold totL at *; simp only [List.length_cons, List.map_cons, List.sum_cons] at *; omega
        · unfold totL at *; simp only [List.length_cons, List.map_cons, List.sum_cons] at *; omega
      · unfold totL at *; simp only [List.length_cons, List.map_cons, List.sum_cons] at *; omega
theorem inpR_tot (x : Version) (lv : Int) : totL totTableRef (inpR x lv) ≤ totL totTableRef x.Tables := by
  unfold inpR
  split
  · unfold inpL
    split
    · show 0 ≤ _; omega
    · unfold inpO
      split
      · show 0 ≤ _; omega
      · rename_i l _
        rw [totL_app]
        refine Nat.le_trans (Nat.add_le_add_right (ownI_tot _ _) _) ?_
        exact lev_tot x.Tables lv (lv + 1) (by omega) _
  · show 0 ≤ _; omega
theorem f_markVersion (x : Version) (hl : x.Tables.length ≤ 1048576) : callL E 78 [oVersion x, IN 1] (FVersion x) = some (IN (1 + 10 * (x.Tables.length : Int)), [some (.arr 170 10 ((mksTableRef 1 x.Tables.length).map rTableRef))]) := by
  refine callW (fu := Try.f78) rfl rfl rfl (1) ?_
  intro lp cl hlp hcl
  conv => lhs; whnf
  rw [cl_eq hcl (f_markTableRefS x.Tables 1 (by omega) (by omega) (by omega))]
  rotate_left
  · show _ = _
    kernel_rfl
  · show _ = _
    kernel_rfl
  show _ = _
  kernel_rfl

set_option maxHeartbeats 4000000 in
theorem f_law (x : Version) (lv : Int) (hk : okVersion x) (hb : i64r lv) : callL E 14 [vVersion x, IN lv] [] = some (BO true, []) := by
  have hn := inpR_len x lv
  refine callW (fu := Try.f14) rfl rfl rfl (1) ?_
  intro lp cl hlp hcl
  conv => lhs; whnf
  rw [cl_eq hcl (f_szVersion x hk 1048576 (by omega) (by omega))]
  rotate_left
  · show _ = _
    kernel_rfl
  · show _ = _
    kernel_rfl
  conv => lhs; whnf
  by_cases q : ((totVersion x : Nat) : Int) ≤ 1048576
  rotate_left
  · rw [szr_neg q]
    show _ = _
    kernel_rfl
  rw [szr_pos q]
  conv => lhs; whnf
  rw [decide_eq_false (show ¬ (1048576 - ((totVersion x : Nat) : Int) < 0) by omega)]
  conv => lhs; whnf
  have hl : x.Tables.length ≤ 1048576 := by have := tot_len totTableRef x.Tables; have e : totVersion x = (totL totTableRef) x.Tables := rfl; omega
  have htR : (totL totTableRef) (inpR x lv) ≤ 1048576 := Nat.le_trans (inpR_tot x lv) (by have e : totVersion x = (totL totTableRef) x.Tables := rfl; omega)
  have hd : decide (1 + 10 * (x.Tables.length : Int) < 0) = false := decide_eq_false (by omega)
  have hd2 : decide (1 + 10 * ((inpR x lv).length : Int) < 0) = false := decide_eq_false (by omega)
  rw [cl_eq hcl (f_toVersion x (by omega))]
  rotate_left
  · show _ = _
    kernel_rfl
  · show _ = _
    kernel_rfl
  conv => lhs; whnf
  rw [cl_eq hcl (f_sIO x lv hl)]
  rotate_left
  · show _ = _
    kernel_rfl
  · show _ = _
    kernel_rfl
  conv => lhs; whnf
  rw [cl_eq hcl (f_toVersion x (by omega))]
  rotate_left
  · show _ = _
    kernel_rfl
  · show _ = _
    kernel_rfl
  conv => lhs; whnf
  rw [cl_eq hcl (f_iIO x lv hl)]
  rotate_left
  · show _ = _
    kernel_rfl
  · show _ = _
    kernel_rfl
  conv => lhs; whnf
  rw [cl_eq hcl (f_eqTableRefS (inpR x lv) htR)]
  rotate_left
  · show _ = _
    kernel_rfl
  · show _ = _
    kernel_rfl
  conv => lhs; whnf
  rw [cl_eq hcl (f_toVersion x (by omega))]
  rotate_left
  · show _ = _
    kernel_rfl
  · show _ = _
    kernel_rfl
  conv => lhs; whnf
  rw [cl_eq hcl (f_eqVersion x (by omega))]
  rotate_left
  · show _ = _
    kernel_rfl
  · show _ = _
    kernel_rfl
  conv => lhs; whnf
  rw [cl_eq hcl (f_markVersion x hl)]
  rotate_left
  · show _ = _
    kernel_rfl
  · show _ = _
    kernel_rfl
  conv => lhs; whnf
  rw [hd]
  conv => lhs; whnf
  rw [cl_eq hcl (f_eqTableRefS (inpR x lv) htR)]
  rotate_left
  · show _ = _
    kernel_rfl
  · show _ = _
    kernel_rfl
  conv => lhs; whnf
  rw [cl_eq hcl (f_markTableRefS (inpR x lv) 1 (by omega) (by omega) (by omega))]
  rotate_left
  · show _ = _
    kernel_rfl
  · show _ = _
    kernel_rfl
  conv => lhs; whnf
  rw [cl_eq hcl (f_heldTableRefS (inpR x lv).length 1 (by omega) (by omega) (by omega))]
  rotate_left
  · show _ = _
    kernel_rfl
  · show _ = _
    kernel_rfl
  conv => lhs; whnf
  rw [hd2]
  conv => lhs; whnf
  rw [bne_self_eq_false]
  conv => lhs; whnf
  rw [cl_eq hcl (f_toVersion x (by omega))]
  rotate_left
  · show _ = _
    kernel_rfl
  · show _ = _
    kernel_rfl
  conv => lhs; whnf
  rw [cl_eq hcl (f_iIO x lv hl)]
  rotate_left
  · show _ = _
    kernel_rfl
  · show _ = _
    kernel_rfl
  conv => lhs; whnf
  rw [cl_eq hcl (f_eqTableRefS (inpR x lv) htR)]
  rotate_left
  · show _ = _
    kernel_rfl
  · show _ = _
    kernel_rfl
  conv => lhs; whnf
  rw [cl_eq hcl (f_heldTableRefS (inpR x lv).length 1 (by omega) (by omega) (by omega))]
  rotate_left
  · show _ = _
    kernel_rfl
  · show _ = _
    kernel_rfl
  conv => lhs; whnf
  rw [hd2]
  conv => lhs; whnf
  rw [bne_self_eq_false]
  show _ = _
  kernel_rfl

end Go.Proofs.Ytcdgobimidmacaa.T38

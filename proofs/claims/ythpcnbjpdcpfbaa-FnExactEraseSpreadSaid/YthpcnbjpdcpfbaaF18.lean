/- FnExactEraseSpread: what its functions come to, and the row; conditions: none. -/
import Derived.Test.YthpcnbjpdcpfbaaT18
import Derived.Test.YthpcnbjpdcpfbaaEr
import Derived.Test.YthpcnbjpdcpfbaaRows
import Derived.WalkKit
import Derived.ProofKit
import Derived.OpenShut
import Derived.ShutString
import Derived.ChangeOld
import Derived.Below
import Derived.SizedLaws
namespace Go.Proofs.Ythpcnbjpdcpfbaa.T18
open Go.Proofs.YthpcnbjpdcpfbaaE
set_option maxRecDepth 100000
set_option linter.unusedVariables false
set_option linter.unusedSimpArgs false

def h_szStringS (l : List ByteArray) (c n : Int) : List V := ([.d (.arr (l.map rS)), IN c, .dead, .dead, .dead, IN n] ++ List.replicate 22 .dead : List V)
theorem f_szStringS (l : List ByteArray) (hk : okL okS l) (left : Int) (h0 : 0 ≤ left) (h1 : left ≤ 1048576) : callL E 191 [.d (.arr (l.map rS)), IN left] [] = some (IN (szr ((totL ByteArray.size) l) left), []) := by
  have hl := hk.1
  refine callW (fu := Try.f191) rfl rfl (l.length + 1) ?_
  intro lp cl hlp hcl
  generalize hN : l.length + 1 = N
  conv => lhs; whnf
  have hw : IntKind.i64.wrap (left - ((l.map rS).length : Int)) = left - (l.length : Int) := by rw [IntKind.wrap_i64, List.length_map]; omega
  rw [hw]
  by_cases q : (l.length : Int) ≤ left
  rotate_left
  · rw [decide_eq_true (show left - (l.length : Int) < 0 by omega), szr_neg (by unfold totL; omega)]
    show _ = _
    kernel_rfl
  rw [decide_eq_false (show ¬ (left - (l.length : Int) < 0) by omega)]
  conv => lhs; whnf
  rw [hlp]
  refine loop_rule (fun d t F => ∃ i : Nat, t = h_szStringS l (left - (l.length : Int) - (((l.take i).map ByteArray.size).sum : Nat)) i ∧ F = [] ∧ d = l.length - i ∧ i ≤ l.length ∧ ((((l.take i).map ByteArray.size).sum : Nat) : Int) ≤ left - l.length) ?_ N l.length _ _ (by omega) ⟨h_szStringS l (left - (l.length : Int)) 0, [], fun k => by kernel_rfl, 0, by simp, rfl, by omega, by omega, by simpa using (show (l.length : Int) ≤ left from q)⟩
  rintro d t F ⟨i, rfl, rfl, rfl, hi, hs⟩ next hnext
  have hq := sum_take_le ByteArray.size l i
  generalize hS : (((l.take i).map ByteArray.size).sum : Nat) = S at *
  conv => lhs; whnf
  split
  · rename_i h
    have hlt : i < l.length := by have := of_decide_eq_true h; simp at this; omega
    have hg := get_map rS l i hlt
    have hn := sum_take_succ ByteArray.size l i hlt
    have hq1 := sum_take_le ByteArray.size l (i + 1)
    rw [hS] at hn
    conv => lhs; whnf
    repeat (rw [hg]; conv => lhs; whnf)
    have hz : okS l[i] := hk.2 _ (List.getElem_mem _)
    unfold okS at hz
    have hw2 : IntKind.i64.wrap (left - (l.length : Int) - (S : Int) - (l[i].size : Int)) = left - l.length - S - l[i].size := by rw [IntKind.wrap_i64]; omega
    rw [hw2]
    by_cases q2 : (l[i].size : Int) ≤ left - l.length - S
    rotate_left
    · rw [decide_eq_true (show left - (l.length : Int) - (S : Int) - (l[i].size : Int) < 0 by omega), szr_neg (by unfold totL; omega)]
      show _ = _
      kernel_rfl
    rw [decide_eq_false (show ¬ ((left - (l.length : Int) - (S : Int) - ((ByteArray.size l[i] : Nat) : Int)) < 0) by omega)]
    conv => lhs; whnf
    refine hnext (l.length - (i + 1)) _ _ (h_szStringS l (left - (l.length : Int) - (S : Int) - ((ByteArray.size l[i] : Nat) : Int)) (IntKind.i64.wrap ((i : Int) + 1))) [] (by omega) (fun k => by kernel_rfl) ⟨i + 1, by rw [wrap_nat i (by omega), show left - (l.length : Int) - ((((l.take (i + 1)).map ByteArray.size).sum : Nat) : Int) = (left - (l.length : Int) - (S : Int) - ((ByteArray.size l[i] : Nat) : Int)) by omega], rfl, rfl, by omega, by omega⟩
  · rename_i h
    have hlt : i = l.length := by have := of_decide_eq_false h; simp at this; omega
    subst hlt
    rw [List.take_length] at hS
    rw [szr_pos (by unfold totL; omega), show left - ((totL ByteArray.size l : Nat) : Int) = left - (l.length : Int) - (S : Int) by unfold totL; omega]
    show _ = _
    kernel_rfl

theorem f_szBlock (x : Block) (hk : okBlock x) (left : Int) (h0 : 0 ≤ left) (h1 : left ≤ 1048576) : callL E 156 [vBlock x, IN left] [] = some (IN (szr (totBlock x) left), []) := by
  have hT : totBlock x = (totL ByteArray.size) x.Pages := rfl
  have ⟨kErases, kNext, kPages⟩ := hk
  refine callW (fu := Try.f156) rfl rfl 1 ?_
  intro lp cl hlp hcl
  conv => lhs; whnf
  rw [cl_eq hcl (f_szStringS x.Pages kPages (left) (by omega) (by omega))]
  rotate_left
  · show _ = _
    kernel_rfl
  · show _ = _
    kernel_rfl
  by_cases q0 : (((totL ByteArray.size) x.Pages : Nat) : Int) ≤ left
  rotate_left
  · rw [szr_neg q0, szr_neg (by omega)]
    show _ = _
    kernel_rfl
  rw [szr_pos q0]
  conv => lhs; whnf
  rw [decide_eq_false (show ¬ (left - (((totL ByteArray.size) x.Pages : Nat) : Int) < 0) by omega)]
  conv => lhs; whnf
  rw [szr_pos (show ((totBlock x : Nat) : Int) ≤ left by omega), show left - ((totBlock x : Nat) : Int) = (left - (((totL ByteArray.size) x.Pages : Nat) : Int)) by omega]
  show _ = _
  kernel_rfl

def h_szBlockS (l : List Block) (c n : Int) : List V := ([.d (.arr (l.map rBlock)), IN c, .dead, .dead, .dead, IN n] ++ List.replicate 21 .dead : List V)
theorem f_szBlockS (l : List Block) (hk : okL okBlock l) (left : Int) (h0 : 0 ≤ left) (h1 : left ≤ 1048576) : callL E 99 [.d (.arr (l.map rBlock)), IN left] [] = some (IN (szr ((totL totBlock) l) left), []) := by
  have hl := hk.1
  refine callW (fu := Try.f99) rfl rfl (l.length + 1) ?_
  intro lp cl hlp hcl
  generalize hN : l.length + 1 = N
  conv => lhs; whnf
  have hw : IntKind.i64.wrap (left - ((l.map rBlock).length : Int)) = left - (l.length : Int) := by rw [IntKind.wrap_i64, List.length_map]; omega
  rw [hw]
  by_cases q : (l.length : Int) ≤ left
  rotate_left
  · rw [decide_eq_true (show left - (l.length : Int) < 0 by omega), szr_neg (by unfold totL; omega)]
    show _ = _
    kernel_rfl
  rw [decide_eq_false (show ¬ (left - (l.length : Int) < 0) by omega)]
  conv => lhs; whnf
  rw [hlp]
  refine loop_rule (fun d t F => ∃ i : Nat, t = h_szBlockS l (left - (l.length : Int) - (((l.take i).map totBlock).sum : Nat)) i ∧ F = [] ∧ d = l.length - i ∧ i ≤ l.length ∧ ((((l.take i).map totBlock).sum : Nat) : Int) ≤ left - l.length) ?_ N l.length _ _ (by omega) ⟨h_szBlockS l (left - (l.length : Int)) 0, [], fun k => by kernel_rfl, 0, by simp, rfl, by omega, by omega, by simpa using (show (l.length : Int) ≤ left from q)⟩
  rintro d t F ⟨i, rfl, rfl, rfl, hi, hs⟩ next hnext
  have hq := sum_take_le totBlock l i
  generalize hS : (((l.take i).map totBlock).sum : Nat) = S at *
  conv => lhs; whnf
  split
  · rename_i h
    have hlt : i < l.length := by have := of_decide_eq_true h; simp at this; omega
    have hg := get_map rBlock l i hlt
    have hn := sum_take_succ totBlock l i hlt
    have hq1 := sum_take_le totBlock l (i + 1)
    rw [hS] at hn
    conv => lhs; whnf
    repeat (rw [hg]; conv => lhs; whnf)
    rw [cl_eq hcl (f_szBlock l[i] (hk.2 _ (List.getElem_mem _)) (left - l.length - S) (by omega) (by omega))]
    rotate_left
    · show _ = _
      kernel_rfl
    · show _ = _
      kernel_rfl
    by_cases q2 : ((totBlock l[i] : Nat) : Int) ≤ left - l.length - S
    rotate_left
    · rw [szr_neg q2, szr_neg (by unfold totL; omega)]
      show _ = _
      kernel_rfl
    rw [szr_pos q2]
    conv => lhs; whnf
    rw [decide_eq_false (show ¬ ((left - (l.length : Int) - (S : Int) - ((totBlock l[i] : Nat) : Int)) < 0) by omega)]
    conv => lhs; whnf
    refine hnext (l.length - (i + 1)) _ _ (h_szBlockS l (left - (l.length : Int) - (S : Int) - ((totBlock l[i] : Nat) : Int)) (IntKind.i64.wrap ((i : Int) + 1))) [] (by omega) (fun k => by kernel_rfl) ⟨i + 1, by rw [wrap_nat i (by omega), show left - (l.length : Int) - ((((l.take (i + 1)).map totBlock).sum : Nat) : Int) = (left - (l.length : Int) - (S : Int) - ((totBlock l[i] : Nat) : Int)) by omega], rfl, rfl, by omega, by omega⟩
  · rename_i h
    have hlt : i = l.length := by have := of_decide_eq_false h; simp at this; omega
    subst hlt
    rw [List.take_length] at hS
    rw [szr_pos (by unfold totL; omega), show left - ((totL totBlock l : Nat) : Int) = left - (l.length : Int) - (S : Int) by unfold totL; omega]
    show _ = _
    kernel_rfl

theorem f_szFlash (x : Flash) (hk : okFlash x) (left : Int) (h0 : 0 ≤ left) (h1 : left ≤ 1048576) : callL E 36 [vFlash x, IN left] [] = some (IN (szr (totFlash x) left), []) := by
  have hT : totFlash x = (totL totBlock) x.Blocks := rfl
  have ⟨kGeo, kBlocks, kFuse, kKeep, kOps⟩ := hk
  refine callW (fu := Try.f36) rfl rfl 1 ?_
  intro lp cl hlp hcl
  conv => lhs; whnf
  rw [cl_eq hcl (f_szBlockS x.Blocks kBlocks (left) (by omega) (by omega))]
  rotate_left
  · show _ = _
    kernel_rfl
  · show _ = _
    kernel_rfl
  by_cases q0 : (((totL totBlock) x.Blocks : Nat) : Int) ≤ left
  rotate_left
  · rw [szr_neg q0, szr_neg (by omega)]
    show _ = _
    kernel_rfl
  rw [szr_pos q0]
  conv => lhs; whnf
  rw [decide_eq_false (show ¬ (left - (((totL totBlock) x.Blocks : Nat) : Int) < 0) by omega)]
  conv => lhs; whnf
  rw [szr_pos (show ((totFlash x : Nat) : Int) ≤ left by omega), show left - ((totFlash x : Nat) : Int) = (left - (((totL totBlock) x.Blocks : Nat) : Int)) by omega]
  show _ = _
  kernel_rfl

theorem f_toGeometry (x : Geometry) : callL E 101 [vGeometry x] [] = some (vGeometry x, []) := by
  refine callW (fu := Try.f101) rfl rfl 1 ?_
  intro lp cl hlp hcl
  show _ = _
  kernel_rfl

def h_toStringS (l : List ByteArray) (n : Int) : List V := ([.d (.arr (l.map rS)), .dead, .dead, .sl 0, IN n] ++ List.replicate 17 .dead : List V)
def z_toStringS : List D := [.lit (.string ⟨#[]⟩)]
theorem f_toStringS (l : List ByteArray) (ht : (totL ByteArray.size) l ≤ 1048576) : callL E 192 [.d (.arr (l.map rS))] [] = some (.d (.arr (l.map rS)), []) := by
  have hl : l.length ≤ 1048576 := by unfold totL at ht; omega
  refine callW (fu := Try.f192) rfl rfl (l.length + 1) ?_
  intro lp cl hlp hcl
  generalize hN : l.length + 1 = N
  conv => lhs; whnf
  rw [mkOk_nat (l.map rS).length 16 1 (by simp; omega) rfl rfl]
  conv => lhs; whnf
  rw [hlp]
  refine loop_rule (fun d t F => ∃ i : Nat, t = h_toStringS l i ∧ F = [some (.arr 9 1 ((l.take i).map rS ++ List.replicate (l.length - i) z_toStringS))] ∧ d = l.length - i ∧ i ≤ l.length) ?_ N l.length _ _ (by omega) ⟨h_toStringS l 0, [some (.arr 9 1 (List.replicate (l.map rS).length z_toStringS))], fun k => by kernel_rfl, 0, rfl, by simp, by omega, by omega⟩
  rintro d t F ⟨i, rfl, rfl, rfl, hi⟩ next hnext
  conv => lhs; whnf
  split
  · rename_i h
    have hlt : i < l.length := by have := of_decide_eq_true h; simp at this; omega
    have hg := get_map rS l i hlt
    conv => lhs; whnf
    repeat (rw [hg]; conv => lhs; whnf)
    have hq := get_row rS l z_toStringS i hlt
    repeat (rw [hq]; conv => lhs; whnf)
    refine hnext (l.length - (i + 1)) _ _ (h_toStringS l (IntKind.i64.wrap ((i : Int) + 1))) [some (.arr 9 1 (((l.take i).map rS ++ List.replicate (l.length - i) z_toStringS).set ((i : Nat) : Int).toNat (rS l[i])))] (by omega) (fun k => by kernel_rfl) ⟨i + 1, by rw [wrap_nat i (by omega)], by rw [take_row rS l z_toStringS i hlt], rfl, by omega⟩
  · rename_i h
    have hlt : i = l.length := by have := of_decide_eq_false h; simp at this; omega
    conv => lhs; whnf
    subst hlt
    rw [List.take_length, Nat.sub_self, List.replicate_zero, List.append_nil]
    show _ = _
    kernel_rfl

theorem f_toBlock (x : Block) (ht : totBlock x ≤ 1048576) : callL E 158 [vBlock x] [] = some (vBlock x, []) := by
  have hT : totBlock x = (totL ByteArray.size) x.Pages := rfl
  refine callW (fu := Try.f158) rfl rfl 1 ?_
  intro lp cl hlp hcl
  conv => lhs; whnf
  rw [cl_eq hcl (f_toStringS x.Pages (by omega))]
  rotate_left
  · show _ = _
    kernel_rfl
  · show _ = _
    kernel_rfl
  show _ = _
  kernel_rfl

def h_toBlockS (l : List Block) (n : Int) : List V := ([.d (.arr (l.map rBlock)), .dead, .dead, .sl 0, IN n] ++ List.replicate 18 .dead : List V)
def z_toBlockS : List D := [.lit (.int .i64 0), .lit (.int .i64 0), .lit (.bool false), .arr []]
theorem f_toBlockS (l : List Block) (ht : (totL totBlock) l ≤ 1048576) : callL E 102 [.d (.arr (l.map rBlock))] [] = some (.d (.arr (l.map rBlock)), []) := by
  have hl : l.length ≤ 1048576 := by unfold totL at ht; omega
  refine callW (fu := Try.f102) rfl rfl (l.length + 1) ?_
  intro lp cl hlp hcl
  generalize hN : l.length + 1 = N
  conv => lhs; whnf
  rw [mkOk_nat (l.map rBlock).length 48 4 (by simp; omega) rfl rfl]
  conv => lhs; whnf
  rw [hlp]
  refine loop_rule (fun d t F => ∃ i : Nat, t = h_toBlockS l i ∧ F = [some (.arr 135 4 ((l.take i).map rBlock ++ List.replicate (l.length - i) z_toBlockS))] ∧ d = l.length - i ∧ i ≤ l.length) ?_ N l.length _ _ (by omega) ⟨h_toBlockS l 0, [some (.arr 135 4 (List.replicate (l.map rBlock).length z_toBlockS))], fun k => by kernel_rfl, 0, rfl, by simp, by omega, by omega⟩
  rintro d t F ⟨i, rfl, rfl, rfl, hi⟩ next hnext
  conv => lhs; whnf
  split
  · rename_i h
    have hlt : i < l.length := by have := of_decide_eq_true h; simp at this; omega
    have hg := get_map rBlock l i hlt
    conv => lhs; whnf
    repeat (rw [hg]; conv => lhs; whnf)
    rw [cl_eq hcl (f_toBlock l[i] (Nat.le_trans (tot_get totBlock l i hlt) ht))]
    rotate_left
    · show _ = _
      kernel_rfl
    · show _ = _
      kernel_rfl
    conv => lhs; whnf
    have hq := get_row rBlock l z_toBlockS i hlt
    repeat (rw [hq]; conv => lhs; whnf)
    refine hnext (l.length - (i + 1)) _ _ (h_toBlockS l (IntKind.i64.wrap ((i : Int) + 1))) [some (.arr 135 4 (((l.take i).map rBlock ++ List.replicate (l.length - i) z_toBlockS).set ((i : Nat) : Int).toNat (rBlock l[i])))] (by omega) (fun k => by kernel_rfl) ⟨i + 1, by rw [wrap_nat i (by omega)], by rw [take_row rBlock l z_toBlockS i hlt], rfl, by omega⟩
  · rename_i h
    have hlt : i = l.length := by have := of_decide_eq_false h; simp at this; omega
    conv => lhs; whnf
    subst hlt
    rw [List.take_length, Nat.sub_self, List.replicate_zero, List.append_nil]
    show _ = _
    kernel_rfl

theorem f_toFlash (x : Flash) (ht : totFlash x ≤ 1048576) : callL E 38 [vFlash x] [] = some (vFlash x, []) := by
  have hT : totFlash x = (totL totBlock) x.Blocks := rfl
  refine callW (fu := Try.f38) rfl rfl 1 ?_
  intro lp cl hlp hcl
  conv => lhs; whnf
  rw [cl_eq hcl (f_toGeometry x.Geo)]
  rotate_left
  · show _ = _
    kernel_rfl
  · show _ = _
    kernel_rfl
  conv => lhs; whnf
  rw [cl_eq hcl (f_toBlockS x.Blocks (by omega))]
  rotate_left
  · show _ = _
    kernel_rfl
  · show _ = _
    kernel_rfl
  show _ = _
  kernel_rfl

theorem f_eqGeometry (x : Geometry) : callL E 104 [vGeometry x, vGeometry x] [] = some (BO true, []) := by
  refine callW (fu := Try.f104) rfl rfl 1 ?_
  intro lp cl hlp hcl
  conv => lhs; whnf
  first | rw [bne_self_eq_false] | rw [not_beq_self] | rw [beq_self_eq_true]
  conv => lhs; whnf
  first | rw [bne_self_eq_false] | rw [not_beq_self] | rw [beq_self_eq_true]
  conv => lhs; whnf
  first | rw [bne_self_eq_false] | rw [not_beq_self] | rw [beq_self_eq_true]
  show _ = _
  kernel_rfl

def h_eqStringS (l : List ByteArray) (n : Int) : List V := ([.d (.arr (l.map rS)), .d (.arr (l.map rS)), .dead, .dead, .dead, IN n] ++ List.replicate 20 .dead : List V)
theorem f_eqStringS (l : List ByteArray) (ht : (totL ByteArray.size) l ≤ 1048576) : callL E 194 [.d (.arr (l.map rS)), .d (.arr (l.map rS))] [] = some (BO true, []) := by
  have hl : l.length ≤ 1048576 := by unfold totL at ht; omega
  refine callW (fu := Try.f194) rfl rfl (l.length + 1) ?_
  intro lp cl hlp hcl
  generalize hN : l.length + 1 = N
  conv => lhs; whnf
  first | rw [bne_self_eq_false] | rw [not_beq_self] | rw [beq_self_eq_true]
  conv => lhs; whnf
  rw [hlp]
  refine loop_rule (fun d t F => ∃ i : Nat, t = h_eqStringS l i ∧ F = [] ∧ d = l.length - i ∧ i ≤ l.length) ?_ N l.length _ _ (by omega) ⟨h_eqStringS l 0, [], fun k => by kernel_rfl, 0, rfl, rfl, by omega, by omega⟩
  rintro d t F ⟨i, rfl, rfl, rfl, hi⟩ next hnext
  conv => lhs; whnf
  split
  · rename_i h
    have hlt : i < l.length := by have := of_decide_eq_true h; simp at this; omega
    have hg := get_map rS l i hlt
    conv => lhs; whnf
    repeat (rw [hg]; conv => lhs; whnf)
    first | rw [bne_self_eq_false] | rw [not_beq_self] | rw [beq_self_eq_true]
    conv => lhs; whnf
    refine hnext (l.length - (i + 1)) _ _ (h_eqStringS l (IntKind.i64.wrap ((i : Int) + 1))) [] (by omega) (fun k => by kernel_rfl) ⟨i + 1, by rw [wrap_nat i (by omega)], rfl, rfl, by omega⟩
  · rename_i h
    show _ = _
    kernel_rfl

theorem f_eqBlock (x : Block) (ht : totBlock x ≤ 1048576) : callL E 163 [vBlock x, vBlock x] [] = some (BO true, []) := by
  have hT : totBlock x = (totL ByteArray.size) x.Pages := rfl
  refine callW (fu := Try.f163) rfl rfl 1 ?_
  intro lp cl hlp hcl
  conv => lhs; whnf
  first | rw [bne_self_eq_false] | rw [not_beq_self] | rw [beq_self_eq_true]
  conv => lhs; whnf
  first | rw [bne_self_eq_false] | rw [not_beq_self] | rw [beq_self_eq_true]
  conv => lhs; whnf
  first | rw [bne_self_eq_false] | rw [not_beq_self] | rw [beq_self_eq_true]
  conv => lhs; whnf
  rw [cl_eq hcl (f_eqStringS x.Pages (by omega))]
  rotate_left
  · show _ = _
    kernel_rfl
  · show _ = _
    kernel_rfl
  show _ = _
  kernel_rfl

def h_eqBlockS (l : List Block) (n : Int) : List V := ([.d (.arr (l.map rBlock)), .d (.arr (l.map rBlock)), .dead, .dead, .dead, IN n] ++ List.replicate 21 .dead : List V)
theorem f_eqBlockS (l : List Block) (ht : (totL totBlock) l ≤ 1048576) : callL E 105 [.d (.arr (l.map rBlock)), .d (.arr (l.map rBlock))] [] = some (BO true, []) := by
  have hl : l.length ≤ 1048576 := by unfold totL at ht; omega
  refine callW (fu := Try.f105) rfl rfl (l.length + 1) ?_
  intro lp cl hlp hcl
  generalize hN : l.length + 1 = N
  conv => lhs; whnf
  first | rw [bne_self_eq_false] | rw [not_beq_self] | rw [beq_self_eq_true]
  conv => lhs; whnf
  rw [hlp]
  refine loop_rule (fun d t F => ∃ i : Nat, t = h_eqBlockS l i ∧ F = [] ∧ d = l.length - i ∧ i ≤ l.length) ?_ N l.length _ _ (by omega) ⟨h_eqBlockS l 0, [], fun k => by kernel_rfl, 0, rfl, rfl, by omega, by omega⟩
  rintro d t F ⟨i, rfl, rfl, rfl, hi⟩ next hnext
  conv => lhs; whnf
  split
  · rename_i h
    have hlt : i < l.length := by have := of_decide_eq_true h; simp at this; omega
    have hg := get_map rBlock l i hlt
    conv => lhs; whnf
    repeat (rw [hg]; conv => lhs; whnf)
    rw [cl_eq hcl (f_eqBlock l[i] (Nat.le_trans (tot_get totBlock l i hlt) ht))]
    rotate_left
    · show _ = _
      kernel_rfl
    · show _ = _
      kernel_rfl
    conv => lhs; whnf
    refine hnext (l.length - (i + 1)) _ _ (h_eqBlockS l (IntKind.i64.wrap ((i : Int) + 1))) [] (by omega) (fun k => by kernel_rfl) ⟨i + 1, by rw [wrap_nat i (by omega)], rfl, rfl, by omega⟩
  · rename_i h
    show _ = _
    kernel_rfl

theorem f_eqFlash (x : Flash) (ht : totFlash x ≤ 1048576) : callL E 40 [vFlash x, vFlash x] [] = some (BO true, []) := by
  have hT : totFlash x = (totL totBlock) x.Blocks := rfl
  refine callW (fu := Try.f40) rfl rfl 1 ?_
  intro lp cl hlp hcl
  conv => lhs; whnf
  rw [cl_eq hcl (f_eqGeometry x.Geo)]
  rotate_left
  · show _ = _
    kernel_rfl
  · show _ = _
    kernel_rfl
  conv => lhs; whnf
  rw [cl_eq hcl (f_eqBlockS x.Blocks (by omega))]
  rotate_left
  · show _ = _
    kernel_rfl
  · show _ = _
    kernel_rfl
  conv => lhs; whnf
  first | rw [bne_self_eq_false] | rw [not_beq_self] | rw [beq_self_eq_true]
  conv => lhs; whnf
  first | rw [bne_self_eq_false] | rw [not_beq_self] | rw [beq_self_eq_true]
  conv => lhs; whnf
  first | rw [bne_self_eq_false] | rw [not_beq_self] | rw [beq_self_eq_true]
  conv => lhs; whnf
  first | rw [bne_self_eq_false] | rw [not_beq_self] | rw [beq_self_eq_true]
  show _ = _
  kernel_rfl

theorem f_within (n lo hi : Int) : callL E 96 [IN n, IN lo, IN hi] [] = some (BO (inR n lo hi), []) := by
  refine callW (fu := Try.f96) rfl rfl (1) ?_
  intro lp cl hlp hcl
  conv => lhs; whnf
  unfold inR
  cases h : decide (n ≥ lo)
  all_goals kernel_rfl

theorem f_l00In (n lo hi : Int) : callL E 92 [IN n, IN lo, IN hi] [] = some (BO (inR n lo hi), []) := by
  refine callW (fu := Try.f92) rfl rfl (1) ?_
  intro lp cl hlp hcl
  conv => lhs; whnf
  unfold inR
  cases h : decide (n ≥ lo)
  all_goals kernel_rfl


def okGeo (g : Geometry) : Bool := decide (2 ≤ g.Dies ∧ g.Dies ≤ 3 ∧ 4 ≤ g.Blocks ∧ g.Blocks ≤ 12 ∧ (g.Pages = 8 ∨ g.Pages = 16))
theorem f_sGeo (x : Geometry) : callL E 107 [vGeometry x] [] = some (BO (okGeo x), []) := by
  refine callW (fu := Try.f107) rfl rfl (1) ?_
  intro lp cl hlp hcl
  conv => lhs; whnf
  repeat' (first
    | (rw [cl_eq hcl (f_l00In _ _ _)]; rotate_left; exact rfl; exact rfl; conv => lhs; whnf)
    | (split <;> rename_i hh <;> (try rw [hh]) <;> conv => lhs; whnf))
  all_goals refine fin_b rfl ?_
  all_goals (clear hlp hcl; rw [Bool.eq_iff_iff]; simp [inR, okGeo, -List.length_eq_zero_iff] at *; try omega)
theorem f_iGeo (x : Geometry) : callL E 110 [vGeometry x] [] = some (BO (okGeo x), []) := by
  refine callW (fu := Try.f110) rfl rfl (1) ?_
  intro lp cl hlp hcl
  conv => lhs; whnf
  repeat' (first
    | (rw [cl_eq hcl (f_within _ _ _)]; rotate_left; exact rfl; exact rfl; conv => lhs; whnf)
    | (split <;> rename_i hh <;> (try rw [hh]) <;> conv => lhs; whnf))
  all_goals refine fin_b rfl ?_
  all_goals (clear hlp hcl; rw [Bool.eq_iff_iff]; simp [inR, okGeo, -List.length_eq_zero_iff] at *; try omega)



/-- A page may stand so. -/
def PgOk (b : Block) (i : Nat) (s : ByteArray) : Prop := s.size = 0 ∨ (s.size = 91 ∧ (i : Int) < b.Next)
instance (b : Block) (i : Nat) (s : ByteArray) : Decidable (PgOk b i s) := inferInstanceAs (Decidable (_ ∨ _))
def okBlk (b : Block) (pages : Int) : Bool := decide ((0 ≤ b.Erases ∧ b.Erases ≤ 1000 ∧ 0 ≤ b.Next ∧ b.Next ≤ pages ∧ (b.Pages.length : Int) = pages) ∧ ∀ i (h : i < b.Pages.length), PgOk b i b.Pages[i])

def h_sBlk (b : Block) (p i : Int) : List V := ([.dead, IN p, .bp 0 0, .dead, .dead, IN i] ++ List.replicate 42 .dead : List V)
theorem f_sBlk (b : Block) (p : Int) (hl : totBlock b ≤ 1048576) : callL E 157 [vBlock b, IN p] [] = some (BO (okBlk b p), []) := by
  have hl2 : totL ByteArray.size b.Pages ≤ 1048576 := hl
  have hln := tot_len ByteArray.size b.Pages
  refine callW (fu := Try.f157) rfl rfl (b.Pages.length + 1) ?_
  intro lp cl hlp hcl
  generalize hN : b.Pages.length + 1 = N
  conv => lhs; whnf
  repeat' (first
    | (rw [cl_eq hcl (f_l00In _ _ _)]; rotate_left; exact rfl; exact rfl; conv => lhs; whnf)
    | (split <;> rename_i hh <;> (try rw [hh]) <;> conv => lhs; whnf))
  rotate_right
  · rename_i _ g1 _ g2 _
    have hlen : (b.Pages.length : Int) = p := by simpa using hh
    have base : 0 ≤ b.Erases ∧ b.Erases ≤ 1000 ∧ 0 ≤ b.Next ∧ b.Next ≤ p ∧ (b.Pages.length : Int) = p := by
      simp [inR] at g1 g2
      omega
    try rw [hlp]
    refine loop_rule (fun d t F => ∃ i : Nat, t = h_sBlk b p i ∧ F = [some (.box (mapO .d (rBlock b)))] ∧ d = b.Pages.length - i ∧ i ≤ b.Pages.length ∧ ∀ j (hj : j < i) (h2 : j < b.Pages.length), PgOk b j b.Pages[j]) ?_ N (b.Pages.length) _ _ (by omega) ⟨h_sBlk b p 0, ([some (.box (mapO .d (rBlock b)))]), fun k => by kernel_rfl, 0, rfl, rfl, by omega, by omega, fun j hj => by omega⟩
    rintro d t F ⟨i, rfl, rfl, rfl, hi, hinv⟩ next hnext
    conv => lhs; whnf
    split
    · rename_i h
      have hlt : i < b.Pages.length := by have := of_decide_eq_true h; omega
      have hg := get_map rS b.Pages i hlt
      have bad : ¬ PgOk b i b.Pages[i] → okBlk b p = false := fun hc => decide_eq_false fun h => hc (h.2 i hlt)
      have good : PgOk b i b.Pages[i] → ∀ j (hj : j < i + 1) (h2 : j < b.Pages.length), PgOk b j b.Pages[j] := fun hp j hj h2 => if e : j = i then by subst e; exact hp else hinv j (by omega) h2
      conv => lhs; whnf
      repeat' (first
        | (rw [hg]; conv => lhs; whnf)
        | (split <;> rename_i hh <;> (try rw [hh]) <;> conv => lhs; whnf))
      · rename_i a _
        refine fin_b (b := false) (by kernel_rfl) (bad ?_).symm
        unfold PgOk; simp only [bne_iff_ne, bne_eq_false_iff_eq, beq_iff_eq, beq_eq_false_iff_ne, decide_eq_true_eq, decide_eq_false_iff_not, ne_eq, Bool.not_eq_true', Bool.not_eq_false'] at a hh; omega
      · rename_i a _ c _
        refine fin_b (b := false) (by kernel_rfl) (bad ?_).symm
        unfold PgOk; simp only [bne_iff_ne, bne_eq_false_iff_eq, beq_iff_eq, beq_eq_false_iff_ne, decide_eq_true_eq, decide_eq_false_iff_not, ne_eq, Bool.not_eq_true', Bool.not_eq_false'] at a c hh; omega
      · rename_i a _ c _
        refine hnext (b.Pages.length - (i + 1)) _ _ (h_sBlk b p (IntKind.i64.wrap ((i : Int) + 1))) ([some (.box (mapO .d (rBlock b)))]) (by omega) (fun k => by kernel_rfl) ⟨i + 1, by rw [wrap_nat i (by omega)], rfl, rfl, by omega, good (by unfold PgOk; simp only [bne_iff_ne, bne_eq_false_iff_eq, beq_iff_eq, beq_eq_false_iff_ne, decide_eq_true_eq, decide_eq_false_iff_not, ne_eq, Bool.not_eq_true', Bool.not_eq_false'] at a c hh; omega)⟩
      · refine hnext (b.Pages.length - (i + 1)) _ _ (h_sBlk b p (IntKind.i64.wrap ((i : Int) + 1))) ([some (.box (mapO .d (rBlock b)))]) (by omega) (fun k => by kernel_rfl) ⟨i + 1, by rw [wrap_nat i (by omega)], rfl, rfl, by omega, good (by unfold PgOk; simp only [bne_iff_ne, bne_eq_false_iff_eq, beq_iff_eq, beq_eq_false_iff_ne, decide_eq_true_eq, decide_eq_false_iff_not, ne_eq, Bool.not_eq_true', Bool.not_eq_false'] at hh; omega)⟩
    · rename_i h
      have hlt : i = b.Pages.length := by have := of_decide_eq_false h; omega
      have : okBlk b p = true := decide_eq_true ⟨base, fun j hj => hinv j (by omega) hj⟩
      rw [this]
      show _ = _
      kernel_rfl
  all_goals refine fin_b rfl ?_
  all_goals (clear hlp hcl; simp [okBlk, inR] at *; try (intros; omega))

theorem bytes_list (s : ByteArray) : s.toList = s.data.toList := by
  have hs : s.size = s.data.toList.length := by rw [Array.length_toList]; rfl
  have key : ∀ (n i : Nat) (r : List UInt8), n = s.size - i → ByteArray.toList.loop s i r = r.reverse ++ s.data.toList.drop i := by
    intro n
    induction n with
    | zero =>
      intro i r h
      rw [ByteArray.toList.loop, if_neg (by omega), List.drop_of_length_le (by omega), List.append_nil]
    | succ n ih =>
      intro i r h
      have hlt : i < s.size := by omega
      have hlt2 : i < s.data.toList.length := by omega
      have hlt3 : i < s.data.size := by rw [← Array.length_toList]; omega
      rw [ByteArray.toList.loop, if_pos hlt, ih (i + 1) _ (by omega), List.reverse_cons, List.append_assoc, List.drop_eq_getElem_cons hlt2]
      congr 1
      have : s.get! i = s.data.toList[i] := by
        show s.data[i]! = _
        rw [getElem!_pos s.data i hlt3, Array.getElem_toList]
      rw [this]; rfl
  have := key s.size 0 [] (by omega)
  simpa [ByteArray.toList] using this
theorem bytes_empty (s : ByteArray) : (s.toList == (⟨#[]⟩ : ByteArray).toList) = decide (s.size = 0) := by
  rw [bytes_list, bytes_list, Bool.eq_iff_iff, beq_iff_eq, decide_eq_true_eq]
  cases s with
  | mk a => simp [ByteArray.size]
def h_iBlk (b : Block) (i : Int) : List V := ([.dead, .dead, .dead, .bp 0 0, .dead, .dead, .dead, .dead, .dead, .dead, .dead, .dead, .dead, .dead, .dead, .dead, .dead, .dead, .dead, .dead, .dead, .dead, .dead, .dead, .dead, .dead, .dead, .dead, .d (.arr (b.Pages.map rS)), IN (b.Pages.map rS).length, IN i] ++ List.replicate 18 .dead : List V)
theorem f_iBlk (b : Block) (g : Geometry) (hl : totBlock b ≤ 1048576) : callL E 162 [vGeometry g, vBlock b] [] = some (BO (okBlk b g.Pages), []) := by
  obtain ⟨gd, ge, p⟩ := g
  show callL E 162 [vGeometry ⟨gd, ge, p⟩, vBlock b] [] = some (BO (okBlk b p), [])
  have hl2 : totL ByteArray.size b.Pages ≤ 1048576 := hl
  have hln := tot_len ByteArray.size b.Pages
  refine callW (fu := Try.f162) rfl rfl (b.Pages.length + 1) ?_
  intro lp cl hlp hcl
  generalize hN : b.Pages.length + 1 = N
  conv => lhs; whnf
  repeat' (first
    | (rw [cl_eq hcl (f_within _ _ _)]; rotate_left; exact rfl; exact rfl; conv => lhs; whnf)
    | (split <;> rename_i hh <;> (try rw [hh]) <;> conv => lhs; whnf))
  rotate_right
  · rename_i _ g1 _ g2 _
    have hlen : (b.Pages.length : Int) = p := by simpa using hh
    have base : 0 ≤ b.Erases ∧ b.Erases ≤ 1000 ∧ 0 ≤ b.Next ∧ b.Next ≤ p ∧ (b.Pages.length : Int) = p := by
      simp [inR] at g1 g2
      omega
    try rw [hlp]
    refine loop_rule (fun d t F => ∃ i : Nat, t = h_iBlk b i ∧ F = [some (.box (mapO .d (rBlock b)))] ∧ d = b.Pages.length - i ∧ i ≤ b.Pages.length ∧ ∀ j (hj : j < i) (h2 : j < b.Pages.length), PgOk b j b.Pages[j]) ?_ N (b.Pages.length) _ _ (by omega) ⟨h_iBlk b 0, ([some (.box (mapO .d (rBlock b)))]), fun k => by kernel_rfl, 0, rfl, rfl, by omega, by omega, fun j hj => by omega⟩
    rintro d t F ⟨i, rfl, rfl, rfl, hi, hinv⟩ next hnext
    conv => lhs; whnf
    split
    · rename_i h
      have hlt : i < b.Pages.length := by have := of_decide_eq_true h; simp at this; omega
      have hg := get_map rS b.Pages i hlt
      have bad : ¬ PgOk b i b.Pages[i] → okBlk b p = false := fun hc => decide_eq_false fun h => hc (h.2 i hlt)
      have good : PgOk b i b.Pages[i] → ∀ j (hj : j < i + 1) (h2 : j < b.Pages.length), PgOk b j b.Pages[j] := fun hp j hj h2 => if e : j = i then by subst e; exact hp else hinv j (by omega) h2
      conv => lhs; whnf
      repeat' (first
        | (rw [hg]; conv => lhs; whnf)
        | (split <;> rename_i hh <;> (try rw [hh]) <;> conv => lhs; whnf))
      · rename_i a _
        refine fin_b (b := false) (by kernel_rfl) (bad ?_).symm
        rw [bytes_empty] at a
        unfold PgOk; simp only [bne_iff_ne, bne_eq_false_iff_eq, beq_iff_eq, beq_eq_false_iff_ne, decide_eq_true_eq, decide_eq_false_iff_not, ne_eq, Bool.not_eq_true', Bool.not_eq_false'] at a hh; omega
      · rename_i a _ c _
        refine fin_b (b := false) (by kernel_rfl) (bad ?_).symm
        rw [bytes_empty] at a
        unfold PgOk; simp only [bne_iff_ne, bne_eq_false_iff_eq, beq_iff_eq, beq_eq_false_iff_ne, decide_eq_true_eq, decide_eq_false_iff_not, ne_eq, Bool.not_eq_true', Bool.not_eq_false'] at a c hh; omega
      · rename_i a _ c _
        rw [bytes_empty] at a
        refine hnext (b.Pages.length - (i + 1)) _ _ (h_iBlk b (IntKind.i64.wrap ((i : Int) + 1))) ([some (.box (mapO .d (rBlock b)))]) (by omega) (fun k => by kernel_rfl) ⟨i + 1, by rw [wrap_nat i (by omega)], rfl, rfl, by omega, good (by unfold PgOk; simp only [bne_iff_ne, bne_eq_false_iff_eq, beq_iff_eq, beq_eq_false_iff_ne, decide_eq_true_eq, decide_eq_false_iff_not, ne_eq, Bool.not_eq_true', Bool.not_eq_false'] at a c hh; omega)⟩
      · rw [bytes_empty] at hh
        refine hnext (b.Pages.length - (i + 1)) _ _ (h_iBlk b (IntKind.i64.wrap ((i : Int) + 1))) ([some (.box (mapO .d (rBlock b)))]) (by omega) (fun k => by kernel_rfl) ⟨i + 1, by rw [wrap_nat i (by omega)], rfl, rfl, by omega, good (by unfold PgOk; simp only [bne_iff_ne, bne_eq_false_iff_eq, beq_iff_eq, beq_eq_false_iff_ne, decide_eq_true_eq, decide_eq_false_iff_not, ne_eq, Bool.not_eq_true', Bool.not_eq_false'] at hh; omega)⟩
    · rename_i h
      have hlt : i = b.Pages.length := by have := of_decide_eq_false h; simp at this; omega
      have : okBlk b p = true := decide_eq_true ⟨base, fun j hj => hinv j (by omega) hj⟩
      rw [this]
      show _ = _
      kernel_rfl
  all_goals refine fin_b rfl ?_
  all_goals (clear hlp hcl; simp [okBlk, inR] at *; try (intros; omega))

theorem f_all (g : Geometry) : callL E 159 [vGeometry g] [] = some (IN (IntKind.i64.wrap (g.Dies * g.Blocks)), []) := by
  refine callW (fu := Try.f159) rfl rfl (1) ?_
  intro lp cl hlp hcl
  conv => lhs; whnf
  show _ = _
  kernel_rfl
abbrev bF (x : Flash) : Fo := [some (.box (mapO .d (rFlash x)))]
def pBlk (x : Flash) (b : Block) : Bool := !okBlk b x.Geo.Pages
theorem f_blkClo (x : Flash) (b : Block) (hl : totBlock b ≤ 1048576) : callL E 161 [vBlock b, .bp 0 0] (bF x) = some (BO (pBlk x b), bF x) := by
  refine callW (fu := Try.f161) rfl rfl (1) ?_
  intro lp cl hlp hcl
  conv => lhs; whnf
  rw [cl_eq hcl (f_iBlk b x.Geo hl)]
  rotate_left
  · show _ = _
    kernel_rfl
  · show _ = _
    kernel_rfl
  show _ = _
  kernel_rfl
def h_idxBlk (l : List Block) (i : Int) : List V := ([.d (.arr (l.map rBlock)), .clo 161 [.bp 0 0], .dead, .dead, .dead, .dead, .dead, IN (l.map rBlock).length, IN i] ++ List.replicate 10 .dead : List V)
theorem f_idxBlk (x : Flash) (l : List Block) (hl : totL totBlock l ≤ 1048576) : callL E 193 [.d (.arr (l.map rBlock)), .clo 161 [.bp 0 0]] (bF x) = some (IN (idxP (pBlk x) l), bF x) := by
  have hln := tot_len totBlock l
  refine callW (fu := Try.f193) rfl rfl (l.length + 1) ?_
  intro lp cl hlp hcl
  generalize hN : l.length + 1 = N
  conv => lhs; whnf
  try rw [hlp]
  refine loop_rule (fun d t F => ∃ i : Nat, t = h_idxBlk l i ∧ F = bF x ∧ d = l.length - i ∧ i ≤ l.length ∧ ∀ j (hj : j < i) (h2 : j < l.length), pBlk x l[j] = false) ?_ N (l.length) _ _ (by omega) ⟨h_idxBlk l 0, (bF x), fun k => by kernel_rfl, 0, rfl, rfl, by omega, by omega, fun j hj => by omega⟩
  rintro d t F ⟨i, rfl, rfl, rfl, hi, hinv⟩ next hnext
  conv => lhs; whnf
  split
  · rename_i h
    have hlt : i < l.length := by have := of_decide_eq_true h; simp at this; omega
    have hg := get_map rBlock l i hlt
    have hb := Nat.le_trans (tot_get totBlock l i hlt) hl
    conv => lhs; whnf
    repeat' (first
      | (rw [hg]; conv => lhs; whnf)
      | (rw [cl_eq hcl (f_blkClo x l[i] hb)]; rotate_left; exact rfl; exact rfl; conv => lhs; whnf)
      | (split <;> rename_i hh <;> (try rw [hh]) <;> conv => lhs; whnf))
    · rw [idxP_some hlt hh (fun j hj => hinv j hj (by omega))]
      show _ = _
      kernel_rfl
    · refine hnext (l.length - (i + 1)) _ _ (h_idxBlk l (IntKind.i64.wrap ((i : Int) + 1))) (bF x) (by omega) (fun k => by kernel_rfl) ⟨i + 1, by rw [wrap_nat i (by omega)], rfl, rfl, by omega, fun j hj h3 => if e : j = i then by subst e; exact hh else hinv j (by omega) h3⟩
  · rename_i h
    have hlt : i = l.length := by have := of_decide_eq_false h; simp at this; omega
    subst hlt
    rw [idxP_none (fun j hj => hinv j hj hj)]
    show _ = _
    kernel_rfl
theorem f_anyBlk (x : Flash) (l : List Block) (hl : totL totBlock l ≤ 1048576) : callL E 160 [.d (.arr (l.map rBlock)), .clo 161 [.bp 0 0]] (bF x) = some (BO (l.any (pBlk x)), bF x) := by
  refine callW (fu := Try.f160) rfl rfl (1) ?_
  intro lp cl hlp hcl
  conv => lhs; whnf
  rw [cl_eq hcl (f_idxBlk x l hl)]
  rotate_left
  · show _ = _
    kernel_rfl
  · show _ = _
    kernel_rfl
  conv => lhs; whnf
  rw [← idxP_any]
  show _ = _
  kernel_rfl
def okFl (x : Flash) : Bool := decide (okGeo x.Geo = true ∧ (x.Blocks.length : Int) = x.Geo.Dies * x.Geo.Blocks ∧ -1 ≤ x.Fuse ∧ x.Fuse ≤ 1000000 ∧ 0 ≤ x.Keep ∧ x.Keep ≤ 91 ∧ 0 ≤ x.Ops ∧ x.Blocks.any (pBlk x) = false)
theorem geo_wrap (g : Geometry) (h : okGeo g = true) : IntKind.i64.wrap (g.Dies * g.Blocks) = g.Dies * g.Blocks := by
  have h := of_decide_eq_true h
  have h1 : g.Dies * g.Blocks ≤ 3 * 12 := Int.mul_le_mul h.2.1 h.2.2.2.1 (by omega) (by omega)
  have h2 : 0 ≤ g.Dies * g.Blocks := Int.mul_nonneg (by omega) (by omega)
  exact wrap_sm _ (by omega) (by omega)
theorem f_iFlash (x : Flash) (hl : totFlash x ≤ 1048576) : callL E 103 [vFlash x] [] = some (BO (okFl x), []) := by
  have hl2 : totL totBlock x.Blocks ≤ 1048576 := hl
  refine callW (fu := Try.f103) rfl rfl (1) ?_
  intro lp cl hlp hcl
  conv => lhs; whnf
  repeat' (first
    | (rw [cl_eq hcl (f_iGeo x.Geo)]; rotate_left; exact rfl; exact rfl; conv => lhs; whnf)
    | (rw [cl_eq hcl (f_within _ _ _)]; rotate_left; exact rfl; exact rfl; conv => lhs; whnf)
    | (rw [cl_eq hcl (f_all x.Geo)]; rotate_left; exact rfl; exact rfl; conv => lhs; whnf)
    | (rw [cl_eq hcl (f_anyBlk x x.Blocks hl2)]; rotate_left; exact rfl; exact rfl; conv => lhs; whnf)
    | (split <;> rename_i hh <;> (try rw [hh]) <;> conv => lhs; whnf))
  all_goals refine fin_b rfl ?_
  all_goals (have hw := geo_wrap x.Geo; clear hlp hcl; cases g : okGeo x.Geo)
  all_goals (unfold okFl; generalize x.Blocks.any (pBlk x) = q)
  all_goals (cases q <;> simp [inR, g, hw] at * <;> try (intros; omega))

def h_sFlash (i : Int) : List V := ([.dead, .bp 0 0, .dead, IN i] ++ List.replicate 51 .dead : List V)
theorem f_sFlash (x : Flash) (hl : totFlash x ≤ 1048576) : callL E 100 [vFlash x] [] = some (BO (okFl x), []) := by
  have hl2 : totL totBlock x.Blocks ≤ 1048576 := hl
  have hln := tot_len totBlock x.Blocks
  refine callW (fu := Try.f100) rfl rfl (x.Blocks.length + 1) ?_
  intro lp cl hlp hcl
  generalize hN : x.Blocks.length + 1 = N
  conv => lhs; whnf
  repeat' (first
    | (rw [cl_eq hcl (f_sGeo x.Geo)]; rotate_left; exact rfl; exact rfl; conv => lhs; whnf)
    | (rw [cl_eq hcl (f_l00In _ _ _)]; rotate_left; exact rfl; exact rfl; conv => lhs; whnf)
    | (split <;> rename_i hh <;> (try rw [hh]) <;> conv => lhs; whnf))
  rotate_right
  · rename_i _ g1 _ g2 _ g3 _ g4 _
    have base : okGeo x.Geo = true ∧ (x.Blocks.length : Int) = x.Geo.Dies * x.Geo.Blocks ∧ -1 ≤ x.Fuse ∧ x.Fuse ≤ 1000000 ∧ 0 ≤ x.Keep ∧ x.Keep ≤ 91 ∧ 0 ≤ x.Ops := by
      have g0 : okGeo x.Geo = true := by simpa using g1
      simp [geo_wrap x.Geo g0] at g2
      simp [inR] at g3 g4 hh
      exact ⟨g0, g2, by omega⟩
    try rw [hlp]
    refine loop_rule (fun d t F => ∃ i : Nat, t = h_sFlash i ∧ F = bF x ∧ d = x.Blocks.length - i ∧ i ≤ x.Blocks.length ∧ ∀ j (hj : j < i) (h2 : j < x.Blocks.length), pBlk x x.Blocks[j] = false) ?_ N (x.Blocks.length) _ _ (by omega) ⟨h_sFlash 0, (bF x), fun k => by kernel_rfl, 0, rfl, rfl, by omega, by omega, fun j hj => by omega⟩
    rintro d t F ⟨i, rfl, rfl, rfl, hi, hinv⟩ next hnext
    conv => lhs; whnf
    split
    · rename_i h
      have hlt : i < x.Blocks.length := by have := of_decide_eq_true h; simp at this; omega
      have hg := get_map rBlock x.Blocks i hlt
      have hb := Nat.le_trans (tot_get totBlock x.Blocks i hlt) hl2
      conv => lhs; whnf
      repeat' (first
        | (rw [hg]; conv => lhs; whnf)
        | (rw [cl_eq hcl (f_sBlk x.Blocks[i] x.Geo.Pages hb)]; rotate_left; exact rfl; exact rfl; conv => lhs; whnf)
        | (split <;> rename_i hh <;> (try rw [hh]) <;> conv => lhs; whnf))
      · have : okFl x = false := by
          have : x.Blocks.any (pBlk x) = true := List.any_eq_true.mpr ⟨x.Blocks[i], List.getElem_mem _, hh⟩
          simp [okFl, this]
        rw [this]
        show _ = _
        kernel_rfl
      · refine hnext (x.Blocks.length - (i + 1)) _ _ (h_sFlash (IntKind.i64.wrap ((i : Int) + 1))) (bF x) (by omega) (fun k => by kernel_rfl) ⟨i + 1, by rw [wrap_nat i (by omega)], rfl, rfl, by omega, fun j hj h3 => if e : j = i then by subst e; exact hh else hinv j (by omega) h3⟩
    · rename_i h
      have hlt : i = x.Blocks.length := by have := of_decide_eq_false h; simp at this; omega
      have h4 : x.Blocks.any (pBlk x) = false := List.any_eq_false.mpr fun y hy => by
        obtain ⟨j, hj, rfl⟩ := List.mem_iff_getElem.mp hy
        simpa using hinv j (by omega) hj
      have : okFl x = true := decide_eq_true ⟨base.1, base.2.1, base.2.2.1, base.2.2.2.1, base.2.2.2.2.1, base.2.2.2.2.2.1, base.2.2.2.2.2.2, h4⟩
      rw [this]
      show _ = _
      kernel_rfl
  all_goals refine fin_b rfl ?_
  all_goals (have hw := geo_wrap x.Geo; clear hlp hcl; cases g : okGeo x.Geo)
  all_goals (unfold okFl; generalize x.Blocks.any (pBlk x) = q)
  all_goals (cases q <;> simp [inR, g, hw] at * <;> try (intros; omega))


def spStep (s : Option (Int × Int)) (b : Block) : Option (Int × Int) := match b.Bad with
  | true => s
  | false => match s with
    | none => some (b.Erases, b.Erases)
    | some (lo, hi) => some (if b.Erases < lo then b.Erases else lo, if b.Erases > hi then b.Erases else hi)
def spL (l : List Block) : Option (Int × Int) := l.foldl spStep none
theorem spL_step (l : List Block) (i : Nat) (h : i < l.length) : spL (l.take (i + 1)) = spStep (spL (l.take i)) l[i] := by
  unfold spL
  rw [List.take_succ_eq_append_getElem h, List.foldl_append]; rfl
def spR (x : Flash) : Option (Int × Int) := match okFl x with
  | true => spL x.Blocks
  | false => none
def lo0 : Option (Int × Int) → Int
  | none => 0
  | some p => p.1
def hi0 : Option (Int × Int) → Int
  | none => 0
  | some p => p.2
def lo1 : Option (Int × Int) → Int
  | none => 1000
  | some p => p.1
def got : Option (Int × Int) → Bool
  | none => false
  | some _ => true
theorem blk_in {x : Flash} (h : okFl x = true) (i : Nat) (hi : i < x.Blocks.length) : 0 ≤ x.Blocks[i].Erases ∧ x.Blocks[i].Erases ≤ 1000 := by
  have h := (of_decide_eq_true h).2.2.2.2.2.2.2
  have := List.any_eq_false.mp h x.Blocks[i] (List.getElem_mem _)
  simp [pBlk, okBlk] at this
  omega
def h_iSp (l : List Block) (a b : Int) (c : Bool) (i : Int) : List V := ([.dead, .dead, .dead, .dead, IN a, IN b, BO c, .dead, .dead, .dead, .dead, .dead, .dead, .d (.arr (l.map rBlock)), IN (l.map rBlock).length, IN i] ++ List.replicate 19 .dead : List V)
def h_sSp (a b : Int) (c : Bool) (i : Int) : List V := ([.dead, .bp 0 0, .dead, .dead, IN a, IN b, BO c, IN i] ++ List.replicate 40 .dead : List V)
theorem f_iSp (x : Flash) (hl : totFlash x ≤ 1048576) : callL E 47 [vFlash x] [] = some (.tup [IN (lo0 (spR x)), IN (hi0 (spR x))], []) := by
  have hl2 : totL totBlock x.Blocks ≤ 1048576 := hl
  have hln := tot_len totBlock x.Blocks
  unfold spR
  refine callW (fu := Try.f47) rfl rfl (x.Blocks.length + 1) ?_
  intro lp cl hlp hcl
  generalize hN : x.Blocks.length + 1 = N
  conv => lhs; whnf
  rw [cl_eq hcl (f_iFlash x hl)]
  rotate_left
  · show _ = _
    kernel_rfl
  · show _ = _
    kernel_rfl
  conv => lhs; whnf
  cases g : okFl x
  · show _ = _
    kernel_rfl
  · conv => lhs; whnf
    try rw [hlp]
    refine loop_rule (fun d t F => ∃ i : Nat, t = h_iSp x.Blocks (lo1 (spL (x.Blocks.take i))) (hi0 (spL (x.Blocks.take i))) (got (spL (x.Blocks.take i))) i ∧ F = [] ∧ d = x.Blocks.length - i ∧ i ≤ x.Blocks.length ∧ True) ?_ N (x.Blocks.length) _ _ (by omega) ⟨h_iSp x.Blocks (lo1 (spL (x.Blocks.take 0))) (hi0 (spL (x.Blocks.take 0))) (got (spL (x.Blocks.take 0))) 0, ([]), fun k => by kernel_rfl, 0, rfl, rfl, by omega, by omega, trivial⟩
    rintro d t F ⟨i, rfl, rfl, rfl, hi, hinv⟩ next hnext
    conv => lhs; whnf
    split
    · rename_i h
      have hlt : i < x.Blocks.length := by have := of_decide_eq_true h; simp at this; omega
      have hg := get_map rBlock x.Blocks i hlt
      have hst := spL_step x.Blocks i hlt
      have hb := blk_in g i hlt
      generalize spL (x.Blocks.take i) = s at *
      conv => lhs; whnf
      repeat (rw [hg]; conv => lhs; whnf)
      cases hbad : x.Blocks[i].Bad
      · conv => lhs; whnf
        refine hnext (x.Blocks.length - (i + 1)) _ _ (h_iSp x.Blocks (if x.Blocks[i].Erases < lo1 s then x.Blocks[i].Erases else lo1 s) (if x.Blocks[i].Erases > hi0 s then x.Blocks[i].Erases else hi0 s) true (IntKind.i64.wrap ((i : Int) + 1))) [] (by omega) (fun k => by kernel_rfl) ⟨i + 1, ?_, rfl, rfl, by omega, trivial⟩
        rw [wrap_nat i (by omega), hst]
        unfold spStep
        rw [hbad]
        cases s with
        | none =>
          have e1 : (if x.Blocks[i].Erases < lo1 none then x.Blocks[i].Erases else lo1 none) = x.Blocks[i].Erases := by show (if x.Blocks[i].Erases < 1000 then x.Blocks[i].Erases else 1000) = _; split <;> omega
          have e2 : (if x.Blocks[i].Erases > hi0 none then x.Blocks[i].Erases else hi0 none) = x.Blocks[i].Erases := by show (if x.Blocks[i].Erases > 0 then x.Blocks[i].Erases else 0) = _; split <;> omega
          rw [e1, e2]
          rfl
        | some p => rfl
      · conv => lhs; whnf
        refine hnext (x.Blocks.length - (i + 1)) _ _ (h_iSp x.Blocks (lo1 s) (hi0 s) (got s) (IntKind.i64.wrap ((i : Int) + 1))) [] (by omega) (fun k => by kernel_rfl) ⟨i + 1, ?_, rfl, rfl, by omega, trivial⟩
        rw [wrap_nat i (by omega), hst]
        unfold spStep
        rw [hbad]
    · rename_i h
      have hlt : ¬ i < x.Blocks.length := by have := of_decide_eq_false h; simp at this; omega
      rw [List.take_of_length_le (by omega)]
      generalize spL x.Blocks = s
      cases s with
      | none =>
        show _ = _
        kernel_rfl
      | some p =>
        show _ = _
        kernel_rfl
theorem f_sSp (x : Flash) (hl : totFlash x ≤ 1048576) : callL E 46 [vFlash x] [] = some (.tup [IN (lo0 (spR x)), IN (hi0 (spR x))], []) := by
  have hl2 : totL totBlock x.Blocks ≤ 1048576 := hl
  have hln := tot_len totBlock x.Blocks
  unfold spR
  refine callW (fu := Try.f46) rfl rfl (x.Blocks.length + 1) ?_
  intro lp cl hlp hcl
  generalize hN : x.Blocks.length + 1 = N
  conv => lhs; whnf
  rw [cl_eq hcl (f_sFlash x hl)]
  rotate_left
  · show _ = _
    kernel_rfl
  · show _ = _
    kernel_rfl
  conv => lhs; whnf
  cases g : okFl x
  · show _ = _
    kernel_rfl
  · conv => lhs; whnf
    try rw [hlp]
    refine loop_rule (fun d t F => ∃ i : Nat, t = h_sSp (lo0 (spL (x.Blocks.take i))) (hi0 (spL (x.Blocks.take i))) (!got (spL (x.Blocks.take i))) i ∧ F = bF x ∧ d = x.Blocks.length - i ∧ i ≤ x.Blocks.length ∧ True) ?_ N (x.Blocks.length) _ _ (by omega) ⟨h_sSp (lo0 (spL (x.Blocks.take 0))) (hi0 (spL (x.Blocks.take 0))) (!got (spL (x.Blocks.take 0))) 0, (bF x), fun k => by kernel_rfl, 0, rfl, rfl, by omega, by omega, trivial⟩
    rintro d t F ⟨i, rfl, rfl, rfl, hi, hinv⟩ next hnext
    conv => lhs; whnf
    split
    · rename_i h
      have hlt : i < x.Blocks.length := by have := of_decide_eq_true h; simp at this; omega
      have hg := get_map rBlock x.Blocks i hlt
      have hst := spL_step x.Blocks i hlt
      generalize spL (x.Blocks.take i) = s at *
      conv => lhs; whnf
      repeat (rw [hg]; conv => lhs; whnf)
      cases hbad : x.Blocks[i].Bad
      · cases s with
        | none =>
          conv => lhs; whnf
          refine hnext (x.Blocks.length - (i + 1)) _ _ (h_sSp x.Blocks[i].Erases x.Blocks[i].Erases false (IntKind.i64.wrap ((i : Int) + 1))) (bF x) (by omega) (fun k => by kernel_rfl) ⟨i + 1, ?_, rfl, rfl, by omega, trivial⟩
          rw [wrap_nat i (by omega), hst]
          unfold spStep
          rw [hbad]
          rfl
        | some p =>
          have e : spStep (some p) x.Blocks[i] = some (if x.Blocks[i].Erases < p.1 then x.Blocks[i].Erases else p.1, if x.Blocks[i].Erases > p.2 then x.Blocks[i].Erases else p.2) := by unfold spStep; rw [hbad]
          conv => lhs; whnf
          cases c1 : decide (x.Blocks[i].Erases < lo0 (some p))
          all_goals conv => lhs; whnf
          all_goals cases c2 : decide (x.Blocks[i].Erases > hi0 (some p))
          all_goals conv => lhs; whnf
          · refine hnext (x.Blocks.length - (i + 1)) _ _ (h_sSp p.1 p.2 false (IntKind.i64.wrap ((i : Int) + 1))) (bF x) (by omega) (fun k => by kernel_rfl) ⟨i + 1, ?_, rfl, rfl, by omega, trivial⟩
            rw [wrap_nat i (by omega), hst, e, if_neg (show ¬ x.Blocks[i].Erases < p.1 from of_decide_eq_false c1), if_neg (show ¬ x.Blocks[i].Erases > p.2 from of_decide_eq_false c2)]
            rfl
          · refine hnext (x.Blocks.length - (i + 1)) _ _ (h_sSp p.1 x.Blocks[i].Erases false (IntKind.i64.wrap ((i : Int) + 1))) (bF x) (by omega) (fun k => by kernel_rfl) ⟨i + 1, ?_, rfl, rfl, by omega, trivial⟩
            rw [wrap_nat i (by omega), hst, e, if_neg (show ¬ x.Blocks[i].Erases < p.1 from of_decide_eq_false c1), if_pos (show x.Blocks[i].Erases > p.2 from of_decide_eq_true c2)]
            rfl
          · refine hnext (x.Blocks.length - (i + 1)) _ _ (h_sSp x.Blocks[i].Erases p.2 false (IntKind.i64.wrap ((i : Int) + 1))) (bF x) (by omega) (fun k => by kernel_rfl) ⟨i + 1, ?_, rfl, rfl, by omega, trivial⟩
            rw [wrap_nat i (by omega), hst, e, if_pos (show x.Blocks[i].Erases < p.1 from of_decide_eq_true c1), if_neg (show ¬ x.Blocks[i].Erases > p.2 from of_decide_eq_false c2)]
            rfl
          · refine hnext (x.Blocks.length - (i + 1)) _ _ (h_sSp x.Blocks[i].Erases x.Blocks[i].Erases false (IntKind.i64.wrap ((i : Int) + 1))) (bF x) (by omega) (fun k => by kernel_rfl) ⟨i + 1, ?_, rfl, rfl, by omega, trivial⟩
            rw [wrap_nat i (by omega), hst, e, if_pos (show x.Blocks[i].Erases < p.1 from of_decide_eq_true c1), if_pos (show x.Blocks[i].Erases > p.2 from of_decide_eq_true c2)]
            rfl
      · conv => lhs; whnf
        refine hnext (x.Blocks.length - (i + 1)) _ _ (h_sSp (lo0 s) (hi0 s) (!got s) (IntKind.i64.wrap ((i : Int) + 1))) (bF x) (by omega) (fun k => by kernel_rfl) ⟨i + 1, ?_, rfl, rfl, by omega, trivial⟩
        rw [wrap_nat i (by omega), hst]
        unfold spStep
        rw [hbad]
    · rename_i h
      have hlt : ¬ i < x.Blocks.length := by have := of_decide_eq_false h; simp at this; omega
      rw [List.take_of_length_le (by omega)]
      show _ = _
      kernel_rfl
theorem f_law (x : Flash) (hk : okFlash x) : callL E 8 [vFlash x] [] = some (BO true, []) := by
  refine callW (fu := Try.f8) rfl rfl (1) ?_
  intro lp cl hlp hcl
  conv => lhs; whnf
  rw [cl_eq hcl (f_szFlash x hk 1048576 (by omega) (by omega))]
  rotate_left
  · show _ = _
    kernel_rfl
  · show _ = _
    kernel_rfl
  conv => lhs; whnf
  by_cases q : ((totFlash x : Nat) : Int) ≤ 1048576
  rotate_left
  · rw [szr_neg q]
    show _ = _
    kernel_rfl
  rw [szr_pos q]
  conv => lhs; whnf
  rw [decide_eq_false (show ¬ (1048576 - ((totFlash x : Nat) : Int) < 0) by omega)]
  conv => lhs; whnf
  repeat' (first
    | (rw [cl_eq hcl (f_toFlash x (by omega))]; rotate_left; exact rfl; exact rfl; conv => lhs; whnf)
    | (rw [cl_eq hcl (f_sSp x (by omega))]; rotate_left; exact rfl; exact rfl; conv => lhs; whnf)
    | (rw [cl_eq hcl (f_iSp x (by omega))]; rotate_left; exact rfl; exact rfl; conv => lhs; whnf)
    | (rw [cl_eq hcl (f_eqFlash x (by omega))]; rotate_left; exact rfl; exact rfl; conv => lhs; whnf)
    | (rw [bne_self_eq_false]; conv => lhs; whnf)
    | (rw [not_beq_self]; conv => lhs; whnf)
    | (rw [beq_self_eq_true]; conv => lhs; whnf))
  show _ = _
  kernel_rfl

end Go.Proofs.Ythpcnbjpdcpfbaa.T18

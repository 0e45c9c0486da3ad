/- FnExactAllGood: what its functions come to, and the row; conditions: none. -/
import Derived.Test.YtgcdkchdgeppdaaT03
import Derived.Test.YtgcdkchdgeppdaaEq
import Derived.Test.YtgcdkchdgeppdaaRows
import Derived.WalkKit
import Derived.ProofKit
import Derived.OpenShut
import Derived.ShutString
import Derived.ChangeOld
import Derived.Below
import Derived.SizedLaws
namespace Go.Proofs.Ytgcdkchdgeppdaa.T03
open Go.Proofs.YtgcdkchdgeppdaaE
set_option maxRecDepth 100000

theorem f24 (rows : List (List D)) (n : Int) : callL E 24 [.d (.arr rows), IN n] [] = some (IN (if IntKind.i64.wrap (n - rows.length) < 0 then -1 else IntKind.i64.wrap (n - rows.length)), []) := by
  refine callL_intro (fu := Try.f24) rfl rfl 1 ?_
  conv => lhs; whnf
  split
  · rename_i h; rw [if_pos (of_decide_eq_true h)]; kernel_rfl
  · rename_i h; rw [if_neg (of_decide_eq_false h)]; kernel_rfl

structure Vd where
  fuse : Int
  kp : Int
  cut : Bool
  durable : Int
  started : Int
  pref : Int
  good : Bool
def row (v : Vd) : List D := [dI v.fuse, dI v.kp, dB v.cut, dI v.durable, dI v.started, dI v.pref, dB v.good]
def hd25 (vs : List Vd) (n : Int) : List V := [.d (.arr (vs.map row)), .dead, .dead, IN n] ++ List.replicate 12 .dead

theorem f25 (vs : List Vd) (hl : vs.length < 4611686018427387904) : callL E 25 [.d (.arr (vs.map row))] [] = some (BO (vs.all (·.good)), []) := by
  refine callL_intro (fu := Try.f25) rfl rfl (vs.length + 1) ?_
  generalize hN : vs.length + 1 = N
  conv => lhs; whnf
  refine loop_rule (fun d t F => ∃ i : Nat, t = hd25 vs i ∧ F = [] ∧ d = vs.length - i ∧ i ≤ vs.length ∧ (vs.take i).all (·.good) = true) ?_ N vs.length _ _ (by omega) ⟨hd25 vs 0, [], fun k => rfl, 0, rfl, rfl, by omega, by omega, rfl⟩
  rintro d t F ⟨i, rfl, rfl, rfl, hi, hall⟩ next hnext
  conv => lhs; whnf
  split
  · rename_i h
    have hlt : i < vs.length := by have := of_decide_eq_true h; simp at this; omega
    have hg := get_map row vs i hlt
    conv => lhs; whnf
    rw [hg]
    conv => lhs; whnf
    rw [hg]
    conv => lhs; whnf
    split
    · rename_i h2
      conv => lhs; whnf
      have : vs.all (·.good) = false := by
        rw [List.all_eq_false]; exact ⟨vs[i], List.getElem_mem _, by simpa using h2⟩
      exact Eq.trans (by kernel_rfl) (congrArg (fun b => some (BO b, ([] : Fo))) this.symm)
    · rename_i h2
      conv => lhs; whnf
      refine hnext (vs.length - (i + 1)) _ _ (hd25 vs (IntKind.i64.wrap ((i : Int) + 1))) [] (by omega) (fun k => by kernel_rfl) ⟨i + 1, by rw [wrap_nat i (by omega)], rfl, rfl, by omega, ?_⟩
      rw [List.take_succ_eq_append_getElem hlt, List.all_append, hall]
      simpa using h2
  · rename_i h
    have hlt : ¬ i < vs.length := by have := of_decide_eq_false h; simp at this; omega
    conv => lhs; whnf
    rw [List.take_of_length_le (by omega)] at hall
    exact Eq.trans (by kernel_rfl) (congrArg (fun b => some (BO b, ([] : Fo))) hall.symm)

theorem f87 (v : Vd) : callL E 87 [.agg (mapO .d (row v))] [] = some (.agg (mapO .d (row v)), []) := by
  refine callL_intro (fu := Try.f87) rfl rfl 1 ?_
  kernel_rfl

def hd26 (vs : List Vd) (n : Int) : List V := [.d (.arr (vs.map row)), .dead, .dead, .sl 0, IN n] ++ List.replicate 18 .dead
def zr : List D := [dI 0, dI 0, dB false, dI 0, dI 0, dI 0, dB false]

theorem f26 (vs : List Vd) (hl : vs.length ≤ 1048576) : callL E 26 [.d (.arr (vs.map row))] [] = some (.d (.arr (vs.map row)), []) := by
  refine callL_intro (fu := Try.f26) rfl rfl (vs.length + 1) ?_
  generalize hN : vs.length + 1 = N
  conv => lhs; whnf
  rw [mkOk_nat (vs.map row).length 56 7 (by simp; omega) rfl rfl]
  conv => lhs; whnf
  refine loop_rule (fun d t F => ∃ i : Nat, t = hd26 vs i ∧ F = [some (.arr 118 7 ((vs.take i).map row ++ List.replicate (vs.length - i) zr))] ∧ d = vs.length - i ∧ i ≤ vs.length) ?_ N vs.length _ _ (by omega) ⟨hd26 vs 0, [some (.arr 118 7 (List.replicate (vs.map row).length zr))], fun k => by kernel_rfl, 0, rfl, by simp, by omega, by omega⟩
  rintro d t F ⟨i, rfl, rfl, rfl, hi⟩ next hnext
  conv => lhs; whnf
  split
  · rename_i h
    have hlt : i < vs.length := by have := of_decide_eq_true h; simp at this; omega
    have hg := get_map row vs i hlt
    conv => lhs; whnf
    rw [hg]
    conv => lhs; whnf
    rw [hg]
    conv => lhs; whnf
    rw [call_eq (f87 vs[i])]
    rotate_left
    · kernel_rfl
    · kernel_rfl
    conv => lhs; whnf
    have hq := get_row row vs zr i hlt
    rw [hq]
    conv => lhs; whnf
    rw [hq]
    conv => lhs; whnf
    refine hnext (vs.length - (i + 1)) _ _ (hd26 vs (IntKind.i64.wrap ((i : Int) + 1))) [some (.arr 118 7 (((vs.take i).map row ++ List.replicate (vs.length - i) zr).set ((i : Nat) : Int).toNat (row vs[i])))] (by omega) (fun k => by kernel_rfl) ⟨i + 1, by rw [wrap_nat i (by omega)], by rw [take_row row vs zr i hlt], rfl, by omega⟩
  · rename_i h
    have hlt : i = vs.length := by have := of_decide_eq_false h; simp at this; omega
    conv => lhs; whnf
    subst hlt
    rw [List.take_length, Nat.sub_self, List.replicate_zero, List.append_nil]
    kernel_rfl

theorem f89 (v : Vd) : callL E 89 [.agg (mapO .d (row v))] [] = some (BO (!v.good), []) := by
  refine callL_intro (fu := Try.f89) rfl rfl 1 ?_
  kernel_rfl

theorem f90 (v : Vd) : callL E 90 [.agg (mapO .d (row v)), .agg (mapO .d (row v))] [] = some (BO true, []) := by
  refine callL_intro (fu := Try.f90) rfl rfl 1 ?_
  conv => lhs; whnf
  repeat (first | rw [bne_self_eq_false] | rw [not_beq_self]); conv => lhs; whnf
  repeat ((first | rw [bne_self_eq_false] | rw [not_beq_self]); conv => lhs; whnf)
  kernel_rfl

def hd28 (vs : List Vd) (n : Int) : List V := [.d (.arr (vs.map row)), .d (.arr (vs.map row)), .dead, .dead, .dead, IN n] ++ List.replicate 21 .dead

theorem f28 (vs : List Vd) (hl : vs.length ≤ 1048576) : callL E 28 [.d (.arr (vs.map row)), .d (.arr (vs.map row))] [] = some (BO true, []) := by
  refine callW (fu := Try.f28) rfl rfl (vs.length + 1) ?_
  intro lp cl hlp hcl
  generalize hN : vs.length + 1 = N
  conv => lhs; whnf
  rw [bne_self_eq_false]
  conv => lhs; whnf
  rw [hlp]
  refine loop_rule (fun d t F => ∃ i : Nat, t = hd28 vs i ∧ F = [] ∧ d = vs.length - i ∧ i ≤ vs.length) ?_ N vs.length _ _ (by omega) ⟨hd28 vs 0, [], fun k => by kernel_rfl, 0, rfl, by simp, by omega, by omega⟩
  rintro d t F ⟨i, rfl, rfl, rfl, hi⟩ next hnext
  conv => lhs; whnf
  split
  · rename_i h
    have hlt : i < vs.length := by have := of_decide_eq_true h; simp at this; omega
    have hg := get_map row vs i hlt
    conv => lhs; whnf
    repeat (rw [hg]; conv => lhs; whnf)
    rw [cl_eq hcl (f90 vs[i])]
    rotate_left
    · kernel_rfl
    · kernel_rfl
    conv => lhs; whnf
    refine hnext (vs.length - (i + 1)) _ _ (hd28 vs (IntKind.i64.wrap ((i : Int) + 1))) [] (by omega) (fun k => by kernel_rfl) ⟨i + 1, by rw [wrap_nat i (by omega)], rfl, rfl, by omega⟩
  · rename_i h
    kernel_rfl


def hd144 (vs : List Vd) (n : Int) : List V := [.d (.arr (vs.map row)), .clo 89 [], .dead, .dead, .dead, .dead, .dead, IN (vs.map row).length, IN n] ++ List.replicate 10 .dead

def idxV (vs : List Vd) : Int := match vs.findIdx? (fun v => !v.good) with
  | some i => i
  | none => -1

theorem f144 (vs : List Vd) (hl : vs.length ≤ 1048576) : callL E 144 [.d (.arr (vs.map row)), .clo 89 []] [] = some (IN (idxV vs), []) := by
  refine callW (fu := Try.f144) rfl rfl (vs.length + 1) ?_
  intro lp cl hlp hcl
  generalize hN : vs.length + 1 = N
  conv => lhs; whnf
  rw [hlp]
  refine loop_rule (fun d t F => ∃ i : Nat, t = hd144 vs i ∧ F = [] ∧ d = vs.length - i ∧ i ≤ vs.length ∧ ∀ j (h : j < i) (h2 : j < vs.length), vs[j].good = true) ?_ N vs.length _ _ (by omega) ⟨hd144 vs 0, [], fun k => by kernel_rfl, 0, rfl, by simp, by omega, by omega, fun j h => by omega⟩
  rintro d t F ⟨i, rfl, rfl, rfl, hi, hall⟩ next hnext
  conv => lhs; whnf
  split
  · rename_i h
    have hlt : i < vs.length := by have := of_decide_eq_true h; simp at this; omega
    have hg := get_map row vs i hlt
    conv => lhs; whnf
    repeat (rw [hg]; conv => lhs; whnf)
    rw [cl_eq hcl (f89 vs[i])]
    rotate_left
    · kernel_rfl
    · kernel_rfl
    conv => lhs; whnf
    split
    · rename_i h2
      have : idxV vs = i := by
        unfold idxV
        rw [List.findIdx?_eq_some_iff_getElem.mpr ⟨hlt, h2, fun j hj => by simp [hall j hj (by omega)]⟩]
      refine Eq.trans ?_ (congrArg (fun n : Int => some (IN n, ([] : Fo))) this.symm)
      kernel_rfl
    · rename_i h2
      conv => lhs; whnf
      refine hnext (vs.length - (i + 1)) _ _ (hd144 vs (IntKind.i64.wrap ((i : Int) + 1))) [] (by omega) (fun k => by kernel_rfl) ⟨i + 1, by rw [wrap_nat i (by omega)], rfl, rfl, by omega, fun j hj h3 => ?_⟩
      by_cases hji : j = i
      · subst hji; simpa using h2
      · exact hall j (by omega) h3
  · rename_i h
    have hlt : i = vs.length := by have := of_decide_eq_false h; simp at this; omega
    have : idxV vs = -1 := by
      unfold idxV
      rw [List.findIdx?_eq_none_iff.mpr (fun x hx => by
        obtain ⟨j, hj, rfl⟩ := List.mem_iff_getElem.mp hx
        simp [hall j (by omega) hj])]
    refine Eq.trans ?_ (congrArg (fun n : Int => some (IN n, ([] : Fo))) this.symm)
    kernel_rfl

theorem f88 (vs : List Vd) (hl : vs.length ≤ 1048576) : callL E 88 [.d (.arr (vs.map row)), .clo 89 []] [] = some (BO (decide (idxV vs ≥ 0)), []) := by
  refine callW (fu := Try.f88) rfl rfl 1 ?_
  intro lp cl hlp hcl
  conv => lhs; whnf
  rw [cl_eq hcl (f144 vs hl)]
  rotate_left
  · kernel_rfl
  · kernel_rfl
  kernel_rfl

theorem all_idx (vs : List Vd) : (!decide (idxV vs ≥ 0)) = vs.all (·.good) := by
  unfold idxV
  split
  · rename_i i h
    obtain ⟨hlt, h1, _⟩ := List.findIdx?_eq_some_iff_getElem.mp h
    have : vs.all (·.good) = false := List.all_eq_false.mpr ⟨vs[i], List.getElem_mem _, by simpa using h1⟩
    rw [this]; simp
  · rename_i h
    have := List.findIdx?_eq_none_iff.mp h
    have h2 : vs.all (·.good) = true := List.all_eq_true.mpr fun x hx => by simpa using this x hx
    rw [h2]; rfl

theorem f27 (vs : List Vd) (hl : vs.length ≤ 1048576) : callL E 27 [.d (.arr (vs.map row))] [] = some (BO (vs.all (·.good)), []) := by
  refine callW (fu := Try.f27) rfl rfl 1 ?_
  intro lp cl hlp hcl
  conv => lhs; whnf
  rw [cl_eq hcl (f88 vs hl)]
  rotate_left
  · kernel_rfl
  · kernel_rfl
  rw [← all_idx]
  kernel_rfl

theorem f5 (vs : List Vd) (hb : vs.length ≤ 9223372036854775807) : callL E 5 [.d (.arr (vs.map row))] [] = some (BO true, []) := by
  refine callW (fu := Try.f5) rfl rfl 1 ?_
  intro lp cl hlp hcl
  conv => lhs; whnf
  rw [cl_eq hcl (f24 (vs.map row) 1048576)]
  rotate_left
  · kernel_rfl
  · kernel_rfl
  have hw : IntKind.i64.wrap (1048576 - ((vs.map row).length : Int)) = 1048576 - (vs.length : Int) := by
    rw [IntKind.wrap_i64, List.length_map]; omega
  rw [hw]
  by_cases hl : vs.length ≤ 1048576
  · rw [if_neg (by omega)]
    conv => lhs; whnf
    rw [decide_eq_false (show ¬ (1048576 - (vs.length : Int) < 0) by omega)]
    conv => lhs; whnf
    rw [cl_eq hcl (f26 vs hl)]
    rotate_left
    · kernel_rfl
    · kernel_rfl
    conv => lhs; whnf
    rw [cl_eq hcl (f25 vs (by omega))]
    rotate_left
    · kernel_rfl
    · kernel_rfl
    conv => lhs; whnf
    rw [cl_eq hcl (f26 vs hl)]
    rotate_left
    · kernel_rfl
    · kernel_rfl
    conv => lhs; whnf
    rw [cl_eq hcl (f27 vs hl)]
    rotate_left
    · kernel_rfl
    · kernel_rfl
    conv => lhs; whnf
    rw [not_beq_self]
    conv => lhs; whnf
    rw [cl_eq hcl (f26 vs hl)]
    rotate_left
    · kernel_rfl
    · kernel_rfl
    conv => lhs; whnf
    rw [cl_eq hcl (f28 vs hl)]
    rotate_left
    · kernel_rfl
    · kernel_rfl
    kernel_rfl
  · rw [if_pos (by omega)]
    conv => lhs; whnf
    try kernel_rfl

theorem rows_of {α : Type} (f : α → List D) : ∀ (rows : List (List D)), (∀ r ∈ rows, ∃ a, r = f a) → ∃ l : List α, rows = l.map f
  | [], _ => ⟨[], rfl⟩
  | r :: rows, h => by
    obtain ⟨a, ha⟩ := h r (by simp)
    obtain ⟨l, hl⟩ := rows_of f rows (fun r hr => h r (by simp [hr]))
    exact ⟨a :: l, by rw [ha, hl]; rfl⟩

def tyV : Ty := .struct [.int .i64, .int .i64, .bool, .int .i64, .int .i64, .int .i64, .bool]

theorem row_of {ds : List D} (h : OkD tyV ds) : ∃ v : Vd, ds = row v := by
  simp only [tyV, OkD, OkS] at h
  obtain ⟨_, _, rfl, ⟨n1, rfl, _⟩, _, _, rfl, ⟨n2, rfl, _⟩, _, _, rfl, ⟨b3, rfl⟩, _, _, rfl, ⟨n4, rfl, _⟩, _, _, rfl, ⟨n5, rfl, _⟩, _, _, rfl, ⟨n6, rfl, _⟩, _, _, rfl, ⟨b7, rfl⟩, rfl⟩ := h
  exact ⟨⟨n1, n2, b3, n4, n5, n6, b7⟩, rfl⟩

open Go.ChangeShapes Go.WideShapes Go.ChangeAt Go.RowKit
set_option linter.unusedVariables false
theorem own : ownKnob Try.prog.godebug = none := by kernel_rfl
theorem laidOut : laidOutB Try.prog = true := by kernel_rfl
theorem lifted (os : Os) (started : os.Started) (H : Type) (enc : TypeId × Value → H) :
    ReturnsInHanded {} Try.checked os 5 .any (Rows.fnExactAllGoodSpec.pre6 enc Try.prog Try.f5 Rows.fnExactAllGoodRow.domain false) (Rows.fnExactAllGoodSpec.post enc Try.prog Try.f5 false true false false) := by
  refine returnsInHanded_of_change_sized (C := Try.checked) own started (by kernel_rfl) Try.func5
    (ChangeSpec.witness6 (enc := enc) (C := Try.checked) false ⟨#[], #[.slice none 0 0], []⟩ 8 (by kernel_rfl) (by kernel_rfl) (by kernel_rfl) (by kernel_rfl)) ?_
  intro W base args ds gs before hval0 hW hcnd hsz0 _
  have hval : ∀ (j : Nat) t v, Try.f5.params[j]? = some t → args[j]? = some v → Value.okWide Try.prog W .any base t v := hval0
  have hW' := hW
  obtain ⟨p, q, hA0, hV, rfl, hfz, hnd⟩ := hW
  have hA : DataW.TrodAll enc Try.prog W 0 (fun _ => true) true Try.f5.params.toList args.toList ds p := hA0
  rw [Try.params5] at hA hval
  obtain ⟨v0, vs0, d0, ds0, p0, q0, hargs, rfl, rfl, h0, r0⟩ := trodAll_cons hA
  obtain ⟨rfl, rfl, rfl⟩ := trodAll_nil r0
  obtain rfl : args = #[v0] := by cases args; simp_all
  obtain ⟨rfl, rfl⟩ := trodVars_none hV
  have k0 := h0
  have lt0 : ∀ x ∈ p0, x.block < W.heap.size := by obtain ⟨m, hm⟩ := k0; exact DataW.trod_lt m _ _ _ hm
  obtain ⟨ds0, o0, e0⟩ := open_arg (ty := .slice tyV) (by kernel_rfl) (hval 0 30 v0 rfl rfl) h0
  obtain ⟨rows0, rfl, hl0, hr0⟩ := o0
  obtain ⟨vs, rfl⟩ := rows_of row rows0 (fun r hr => row_of (hr0 r hr))
  refine (law_calls ok (f5 vs (by simpa [maxLen] using hl0)) (vals := #[v0]) rfl (fun i c u g1 g2 => ?_)).mono fun e W' ⟨he, bel⟩ => ?_
  · match i, g1, g2 with
    | 0, g1, g2 => simp at g1 g2; subst g1; subst g2; exact e0
  subst he
  exact ⟨_, rfl, _, _, _, [], _, [], hW', trodAll_mk1 (shut_bool Try.underlying4 _), (trodAll_cons_mk (Below.trod laidOut (by kernel_rfl) (of_decide_eq_true (by kernel_rfl)) k0 bel lt0) trodAll_mk0), rfl, bel.frame _, fun h => by cases h⟩
theorem over : Rows.fnExactAllGoodRow.holds Try.pinned (OpenSpec.ofChange Rows.fnExactAllGoodSpec) :=
  OpenClaim.holds_of_wide 5 Try.f5 rfl rfl rfl rfl rfl rfl rfl ⟨rfl, rfl, rfl, rfl, rfl⟩ rfl rfl rfl rfl rfl (by kernel_rfl) Try.func5 (by kernel_rfl)
    (of_decide_eq_true (by kernel_rfl)) (by unfold Func.isWrapper; first | (rw [if_pos (by decide +kernel)]; kernel_rfl) | (rw [if_neg (by decide +kernel)]; exact ⟨rfl, rfl⟩))
    (fun os started H enc _ => lifted os started H enc)
theorem proved : Rows.FnExactAllGoodSaid := over
end Go.Proofs.Ytgcdkchdgeppdaa.T03
namespace Go.Proofs.Ytgcdkchdgeppdaa
theorem fnExactAllGood_holds : Rows.FnExactAllGoodSaid := T03.proved
end Go.Proofs.Ytgcdkchdgeppdaa

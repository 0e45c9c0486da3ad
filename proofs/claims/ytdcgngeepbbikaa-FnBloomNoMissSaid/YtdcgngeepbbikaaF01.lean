/- FnBloomNoMiss: what its functions come to, and the row; conditions: none. -/
import Derived.Test.YtdcgngeepbbikaaT01
import Derived.Test.YtdcgngeepbbikaaEz
import Derived.Test.YtdcgngeepbbikaaRows
import Derived.WalkKit
import Derived.ProofKit
import Derived.OpenShut
import Derived.ShutString
import Derived.ChangeOld
import Derived.Below
import Derived.SizedLaws
namespace Go.Proofs.Ytdcgngeepbbikaa.T01
open Go.Proofs.YtdcgngeepbbikaaE
set_option maxRecDepth 100000
set_option linter.unusedVariables false
set_option linter.unusedSimpArgs false

noncomputable def p_impl_within (a_0 : Int) (a_1 : Int) (a_2 : Int) : Option Bool :=
  if a_0 ≥ a_1 then
    some (decide (a_0 ≤ a_2))
  else
    some false

set_option maxHeartbeats 4000000 in
theorem L_impl_within (a_0 : Int) (a_1 : Int) (a_2 : Int) {r : Bool} (h : p_impl_within a_0 a_1 a_2 = some r) : callL E 84 [IN a_0, IN a_1, IN a_2] ([] : Fo) = some (BO r, ([] : Fo)) := by
  unfold p_impl_within at h
  refine callW (fu := Try.f84) rfl rfl rfl NN ?_
  intro lp cl hlp hcl
  conv => lhs; whnf
  cases hb1 : (decide (a_0 ≥ a_1))
  · replace h := ifF h (decF hb1); conv => lhs; whnf
    try (rw [hb1]; conv => lhs; whnf)
    try (rw [hb1]; conv => lhs; whnf)
    try (rw [hb1]; conv => lhs; whnf)
    obtain rfl := Option.some.inj h; show _ = _; kernel_rfl

  · replace h := ifT h (decT hb1); conv => lhs; whnf
    try (rw [hb1]; conv => lhs; whnf)
    try (rw [hb1]; conv => lhs; whnf)
    try (rw [hb1]; conv => lhs; whnf)
    obtain rfl := Option.some.inj h; show _ = _; kernel_rfl

theorem pl_within (n lo hi : Int) : p_impl_within n lo hi = some (inR n lo hi) := by
  unfold p_impl_within inR
  split
  · rename_i h; simp [h]
  · rename_i h; simp [h]


theorem f_Repeat {s : ByteArray} {c : Int} (h : 0 ≤ c ∧ c ≤ 140737488355328 ∧ s.size * c.toNat ≤ 140737488355328) : callL E 85 [ST s, IN c] [] = some (ST (repB s c), []) := callX (g := extRepeat) rfl (by
  obtain ⟨h1, h2, h3⟩ := h
  show (match decide (0 ≤ c), decide (c ≤ 140737488355328), decide (s.size * c.toNat ≤ 140737488355328) with
    | true, true, true => some (ST (repB s c), ([] : Fo))
    | _, _, _ => none) = _
  rw [decide_eq_true h1, decide_eq_true h2, decide_eq_true h3])

structure Sl00Src where
  Code : List Int
  At : Int
  Seed : Int
def rSl00Src (x : Sl00Src) : List D := [.arr (x.Code.map rU), dI x.At, .lit (.int .u64 x.Seed)]
theorem rSl00Src_len : ∀ x, (rSl00Src x).length = 3 := fun _ => rfl

noncomputable def p_spec_l00From (a_0 : List Int) : Option Sl00Src :=
  some (⟨a_0, 0, 0⟩ : Sl00Src)

set_option maxHeartbeats 4000000 in
theorem L_spec_l00From (a_0 : List Int) {r : Sl00Src} (h : p_spec_l00From a_0 = some r) : callL E 79 [.d (.arr (a_0.map rU))] ([] : Fo) = some (.bp 0 0, ([some (.box [.d (.arr (r.Code.map rU)), IN r.At, .d (.lit (.int .u64 r.Seed))])] : Fo)) := by
  unfold p_spec_l00From at h
  refine callW (fu := Try.f79) rfl rfl rfl NN ?_
  intro lp cl hlp hcl
  conv => lhs; whnf
  obtain rfl := Option.some.inj h; show _ = _; kernel_rfl


noncomputable def p_spec_l00Src_next (a_0 : Sl00Src) : Option (Int × Sl00Src) :=
  if a_0.At < (a_0.Code.length : Int) then
    getK a_0.Code a_0.At fun x2 =>
    if (IntKind.i64.wrap (a_0.At + 1)) ≤ (a_0.Code.length : Int) then
      some ((IntKind.i64.wrap x2), (⟨a_0.Code, (IntKind.i64.wrap (a_0.At + 1)), (IntKind.u64.wrap ((IntKind.u64.wrap ((IntKind.u64.wrap (a_0.Seed * 6364136223846793005)) + (IntKind.u64.wrap (IntKind.i64.wrap x2)))) + 1442695040888963407))⟩ : Sl00Src))
    else
      some ((IntKind.i64.wrap (andK .u64 (Int.fdiv (IntKind.u64.wrap ((IntKind.u64.wrap ((IntKind.u64.wrap (a_0.Seed * 6364136223846793005)) + (IntKind.u64.wrap (IntKind.i64.wrap x2)))) + 1442695040888963407)) (2 ^ (min (Int.toNat 40) IntKind.u64.bits))) 255)), (⟨a_0.Code, (IntKind.i64.wrap (a_0.At + 1)), (IntKind.u64.wrap ((IntKind.u64.wrap ((IntKind.u64.wrap (a_0.Seed * 6364136223846793005)) + (IntKind.u64.wrap (IntKind.i64.wrap x2)))) + 1442695040888963407))⟩ : Sl00Src))
  else
    if (IntKind.i64.wrap (a_0.At + 1)) ≤ (a_0.Code.length : Int) then
      some (0, (⟨a_0.Code, (IntKind.i64.wrap (a_0.At + 1)), (IntKind.u64.wrap ((IntKind.u64.wrap ((IntKind.u64.wrap (a_0.Seed * 6364136223846793005)) + (IntKind.u64.wrap 0))) + 1442695040888963407))⟩ : Sl00Src))
    else
      some ((IntKind.i64.wrap (andK .u64 (Int.fdiv (IntKind.u64.wrap ((IntKind.u64.wrap ((IntKind.u64.wrap (a_0.Seed * 6364136223846793005)) + (IntKind.u64.wrap 0))) + 1442695040888963407)) (2 ^ (min (Int.toNat 40) IntKind.u64.bits))) 255)), (⟨a_0.Code, (IntKind.i64.wrap (a_0.At + 1)), (IntKind.u64.wrap ((IntKind.u64.wrap ((IntKind.u64.wrap (a_0.Seed * 6364136223846793005)) + (IntKind.u64.wrap 0))) + 1442695040888963407))⟩ : Sl00Src))

set_option maxHeartbeats 4000000 in
theorem L_spec_l00Src_next (a_0 : Sl00Src) {r : (Int × Sl00Src)} (h : p_spec_l00Src_next a_0 = some r) : callL E 193 [.bp 0 0] ([some (.box [.d (.arr (a_0.Code.map rU)), IN a_0.At, .d (.lit (.int .u64 a_0.Seed))])] : Fo) = some (IN r.1, ([some (.box [.d (.arr (r.2.Code.map rU)), IN r.2.At, .d (.lit (.int .u64 r.2.Seed))])] : Fo)) := by
  unfold p_spec_l00Src_next at h
  refine callW (fu := Try.f193) rfl rfl rfl NN ?_
  intro lp cl hlp hcl
  conv => lhs; whnf
  try rw [len_of (l := a_0.Code) (r := rU)]
  cases hb1 : (decide (a_0.At < (a_0.Code.length : Int)))
  · replace h := ifF h (decF hb1); conv => lhs; whnf
    try rw [len_of (l := a_0.Code) (r := rU)]
    cases hb4 : (decide ((IntKind.i64.wrap (a_0.At + 1)) ≤ (a_0.Code.length : Int)))
    · replace h := ifF h (decF hb4); conv => lhs; whnf
      obtain rfl := Option.some.inj h; show _ = _; kernel_rfl

    · replace h := ifT h (decT hb4); conv => lhs; whnf
      obtain rfl := Option.some.inj h; show _ = _; kernel_rfl

  · replace h := ifT h (decT hb1); conv => lhs; whnf
    obtain ⟨x2, hq_x2, hx_x2', h⟩ := getK_inv h
    have hx_x2 := get_of (r := rU) hx_x2'
    try (rw [decide_eq_true hq_x2]; conv => lhs; whnf)
    rw [hx_x2]
    conv => lhs; whnf
    rw [hx_x2]
    conv => lhs; whnf
    try rw [len_of (l := a_0.Code) (r := rU)]
    cases hb3 : (decide ((IntKind.i64.wrap (a_0.At + 1)) ≤ (a_0.Code.length : Int)))
    · replace h := ifF h (decF hb3); conv => lhs; whnf
      obtain rfl := Option.some.inj h; show _ = _; kernel_rfl

    · replace h := ifT h (decT hb3); conv => lhs; whnf
      obtain rfl := Option.some.inj h; show _ = _; kernel_rfl


noncomputable def p_spec_l00Src_pick (a_0 : Int) (a_1 : Sl00Src) : Option (Int × Sl00Src) :=
  if a_0 ≤ 1 then
    some (0, a_1)
  else
    callK (p_spec_l00Src_next a_1) fun y2 =>
    if a_0 > 200 then
      callK (p_spec_l00Src_next y2.2) fun y4 =>
      grd (a_0 ≠ 0) <|
      some ((Int.tmod (IntKind.i64.wrap ((IntKind.i64.wrap (y2.1 * 256)) + y4.1)) a_0), y4.2)
    else
      grd (a_0 ≠ 0) <|
      some ((Int.tmod y2.1 a_0), y2.2)

set_option maxHeartbeats 4000000 in
theorem L_spec_l00Src_pick (a_0 : Int) (a_1 : Sl00Src) {r : (Int × Sl00Src)} (h : p_spec_l00Src_pick a_0 a_1 = some r) : callL E 101 [.bp 0 0, IN a_0] ([some (.box [.d (.arr (a_1.Code.map rU)), IN a_1.At, .d (.lit (.int .u64 a_1.Seed))])] : Fo) = some (IN r.1, ([some (.box [.d (.arr (r.2.Code.map rU)), IN r.2.At, .d (.lit (.int .u64 r.2.Seed))])] : Fo)) := by
  unfold p_spec_l00Src_pick at h
  refine callW (fu := Try.f101) rfl rfl rfl NN ?_
  intro lp cl hlp hcl
  conv => lhs; whnf
  cases hb1 : (decide (a_0 ≤ 1))
  · replace h := ifF h (decF hb1); conv => lhs; whnf
    obtain ⟨y2, h_y2, h⟩ := callK_inv h
    rw [cl_eq hcl (L_spec_l00Src_next a_1 h_y2)]
    rotate_left
    · show _ = _; kernel_rfl
    · show _ = _; kernel_rfl
    conv => lhs; whnf
    cases hb3 : (decide (a_0 > 200))
    · replace h := ifF h (decF hb3); conv => lhs; whnf
      obtain ⟨hg5, h⟩ := grd_inv h
      rw [rem_run _ _ _ _ hg5]
      conv => lhs; whnf
      obtain rfl := Option.some.inj h; show _ = _; kernel_rfl

    · replace h := ifT h (decT hb3); conv => lhs; whnf
      obtain ⟨y4, h_y4, h⟩ := callK_inv h
      rw [cl_eq hcl (L_spec_l00Src_next y2.2 h_y4)]
      rotate_left
      · show _ = _; kernel_rfl
      · show _ = _; kernel_rfl
      conv => lhs; whnf
      obtain ⟨hg6, h⟩ := grd_inv h
      rw [rem_run _ _ _ _ hg6]
      conv => lhs; whnf
      obtain rfl := Option.some.inj h; show _ = _; kernel_rfl

  · replace h := ifT h (decT hb1); conv => lhs; whnf
    obtain rfl := Option.some.inj h; show _ = _; kernel_rfl

/-- A source of choices from which as many may still be drawn. -/
structure SrcOk (b : Int) (s : Sl00Src) : Prop where
  code : ∀ x ∈ s.Code, 0 ≤ x ∧ x ≤ 255
  len : s.Code.length ≤ 1048576
  lo : 0 ≤ s.At
  hi : s.At + b ≤ 4611686018427387904
theorem SrcOk.le {b c : Int} {s : Sl00Src} (h : SrcOk b s) (hc : c ≤ b) : SrcOk c s := ⟨h.1, h.2, h.3, by have := h.4; omega⟩
theorem nxV_in (sd : Int) : 0 ≤ IntKind.i64.wrap (andK .u64 sd 255) ∧ IntKind.i64.wrap (andK .u64 sd 255) ≤ 255 := by
  unfold andK
  generalize BitVec.ofInt IntKind.u64.bits sd = a
  have h1 : (a &&& BitVec.ofInt IntKind.u64.bits 255).toNat ≤ 255 := by
    rw [BitVec.toNat_and]
    exact Nat.le_trans Nat.and_le_right (by decide)
  generalize (a &&& BitVec.ofInt IntKind.u64.bits 255).toNat = m at h1
  have e1 : IntKind.u64.wrap (m : Int) = m := by unfold IntKind.wrap; simp [IntKind.signed, IntKind.bits]; omega
  rw [e1, wrap_sm _ (by omega) (by omega)]
  omega
theorem next_ok {b : Int} {s : Sl00Src} (hb : 0 ≤ b) (h : SrcOk (b + 1) s) : ∃ v s', p_spec_l00Src_next s = some (v, s') ∧ (0 ≤ v ∧ v ≤ 255) ∧ SrcOk b s' := by
  obtain ⟨h1, h2, h3, h4⟩ := h
  have hw : IntKind.i64.wrap (s.At + 1) = s.At + 1 := wrap_sm _ (by omega) (by omega)
  unfold p_spec_l00Src_next
  rw [hw]
  split
  · rename_i hlt
    rw [getK_in h3 hlt]
    have hb := h1 _ (List.getElem_mem (show s.At.toNat < s.Code.length by omega))
    rw [if_pos (by omega)]
    exact ⟨_, _, rfl, by rw [wrap_sm _ (by omega) (by omega)]; exact hb, h1, h2, by show 0 ≤ s.At + 1; omega, by show s.At + 1 + b ≤ _; omega⟩
  · rename_i hlt
    rw [if_neg (by omega)]
    exact ⟨_, _, rfl, nxV_in _, h1, h2, by show 0 ≤ s.At + 1; omega, by show s.At + 1 + b ≤ _; omega⟩
theorem pick_ok {b : Int} {s : Sl00Src} (m : Int) (hb : 0 ≤ b) (h : SrcOk (b + 2) s) : ∃ r s', p_spec_l00Src_pick m s = some (r, s') ∧ (0 ≤ r ∧ (1 < m → r < m) ∧ (m ≤ 1 → r = 0)) ∧ SrcOk b s' := by
  unfold p_spec_l00Src_pick
  split
  · rename_i hm
    exact ⟨0, s, rfl, ⟨by omega, fun h => by omega, fun _ => rfl⟩, h.le (by omega)⟩
  · rename_i hm
    obtain ⟨v1, s1, e1, b1, o1⟩ := next_ok (b := b + 1) (by omega) (h.le (by omega))
    rw [e1, callK_some]
    split
    · obtain ⟨v2, s2, e2, b2, o2⟩ := next_ok hb o1
      rw [e2, callK_some, grd_pos (by omega)]
      have w1 : IntKind.i64.wrap (v1 * 256) = v1 * 256 := wrap_sm _ (by omega) (by omega)
      have w2 : IntKind.i64.wrap (v1 * 256 + v2) = v1 * 256 + v2 := wrap_sm _ (by omega) (by omega)
      refine ⟨_, _, rfl, ?_, o2⟩
      show 0 ≤ Int.tmod (IntKind.i64.wrap (IntKind.i64.wrap (v1 * 256) + v2)) m ∧ _
      rw [w1, w2]
      exact ⟨Int.tmod_nonneg _ (by omega), fun _ => Int.tmod_lt_of_pos _ (by omega), fun h3 => by omega⟩
    · rw [grd_pos (by omega)]
      exact ⟨_, _, rfl, ⟨Int.tmod_nonneg _ b1.1, fun _ => Int.tmod_lt_of_pos _ (by omega), fun h3 => by omega⟩, o1.le (by omega)⟩
theorem from_ok {code : List Int} (h : ∀ x ∈ code, 0 ≤ x ∧ x ≤ 255) (hl : code.length ≤ 1048576) : ∃ s, p_spec_l00From code = some s ∧ SrcOk 1099511627776 s :=
  ⟨_, rfl, h, hl, by show (0 : Int) ≤ 0; omega, by show (0 : Int) + 1099511627776 ≤ _; omega⟩

noncomputable def p_spec_l00Src_text (a_0 : List ByteArray) (a_1 : Sl00Src) : Option (ByteArray × Sl00Src) :=
  callK (p_spec_l00Src_pick (a_0.length : Int) a_1) fun y1 =>
  getK a_0 y1.1 fun x2 =>
  some (x2, y1.2)

set_option maxHeartbeats 4000000 in
theorem L_spec_l00Src_text (a_0 : List ByteArray) (a_1 : Sl00Src) {r : (ByteArray × Sl00Src)} (h : p_spec_l00Src_text a_0 a_1 = some r) : callL E 194 [.bp 0 0, .d (.arr (a_0.map rS))] ([some (.box [.d (.arr (a_1.Code.map rU)), IN a_1.At, .d (.lit (.int .u64 a_1.Seed))])] : Fo) = some (ST r.1, ([some (.box [.d (.arr (r.2.Code.map rU)), IN r.2.At, .d (.lit (.int .u64 r.2.Seed))])] : Fo)) := by
  unfold p_spec_l00Src_text at h
  refine callW (fu := Try.f194) rfl rfl rfl NN ?_
  intro lp cl hlp hcl
  conv => lhs; whnf
  try rw [len_of (l := a_0) (r := rS)]
  obtain ⟨y1, h_y1, h⟩ := callK_inv h
  rw [cl_eq hcl (L_spec_l00Src_pick (a_0.length : Int) a_1 h_y1)]
  rotate_left
  · show _ = _; kernel_rfl
  · show _ = _; kernel_rfl
  conv => lhs; whnf
  obtain ⟨x2, hq_x2, hx_x2', h⟩ := getK_inv h
  have hx_x2 := get_of (r := rS) hx_x2'
  try (rw [decide_eq_true hq_x2]; conv => lhs; whnf)
  rw [hx_x2]
  conv => lhs; whnf
  rw [hx_x2]
  conv => lhs; whnf
  obtain rfl := Option.some.inj h; show _ = _; kernel_rfl


noncomputable def p_spec_l17DrawKey (a_0 : Sl00Src) : Option (ByteArray × Sl00Src) :=
  callK (p_spec_l00Src_text ([(⟨#[97]⟩ : ByteArray), (⟨#[98]⟩ : ByteArray), (⟨#[99]⟩ : ByteArray), (⟨#[100]⟩ : ByteArray), (⟨#[101]⟩ : ByteArray), (⟨#[97, 98]⟩ : ByteArray), (⟨#[98, 49]⟩ : ByteArray), (⟨#[107, 101, 121, 56, 98, 121, 116, 101]⟩ : ByteArray), (⟨#[0]⟩ : ByteArray), (⟨#[255, 255]⟩ : ByteArray)] : List ByteArray) a_0) fun y1 =>
  some (y1.1, y1.2)

set_option maxHeartbeats 4000000 in
theorem L_spec_l17DrawKey (a_0 : Sl00Src) {r : (ByteArray × Sl00Src)} (h : p_spec_l17DrawKey a_0 = some r) : callL E 145 [.bp 0 0] ([some (.box [.d (.arr (a_0.Code.map rU)), IN a_0.At, .d (.lit (.int .u64 a_0.Seed))])] : Fo) = some (ST r.1, ([some (.box [.d (.arr (r.2.Code.map rU)), IN r.2.At, .d (.lit (.int .u64 r.2.Seed))])] : Fo)) := by
  unfold p_spec_l17DrawKey at h
  refine callW (fu := Try.f145) rfl rfl rfl NN ?_
  intro lp cl hlp hcl
  conv => lhs; whnf
  obtain ⟨y1, h_y1, h⟩ := callK_inv h
  rw [cl_eq hcl (L_spec_l00Src_text ([(⟨#[97]⟩ : ByteArray), (⟨#[98]⟩ : ByteArray), (⟨#[99]⟩ : ByteArray), (⟨#[100]⟩ : ByteArray), (⟨#[101]⟩ : ByteArray), (⟨#[97, 98]⟩ : ByteArray), (⟨#[98, 49]⟩ : ByteArray), (⟨#[107, 101, 121, 56, 98, 121, 116, 101]⟩ : ByteArray), (⟨#[0]⟩ : ByteArray), (⟨#[255, 255]⟩ : ByteArray)] : List ByteArray) a_0 h_y1)]
  rotate_left
  · show _ = _; kernel_rfl
  · show _ = _; kernel_rfl
  conv => lhs; whnf
  obtain rfl := Option.some.inj h; show _ = _; kernel_rfl


noncomputable def p_spec_l21Keys (a_0 : Int) (a_1 : Sl00Src) : Option ((List ByteArray) × Sl00Src) :=
  callK (p_spec_l00Src_pick a_0 a_1) fun y1 =>
  iterK (fun ((v2, v3, v4) : (Int × Sl00Src × (List ByteArray))) (nx5 : (Int × Sl00Src × (List ByteArray)) → Option _) =>
    if v2 > 0 then
      callK (p_spec_l17DrawKey v3) fun y7 =>
      grd (appOk (v4.length + 1) 16 = true) <|
      nx5 ((IntKind.i64.wrap (v2 - 1)), y7.2, (v4 ++ ([y7.1] : List ByteArray)))
    else
      some (v4, v3)) NN (y1.1, y1.2, ([] : List ByteArray))

set_option maxHeartbeats 4000000 in
theorem L_spec_l21Keys (a_0 : Int) (a_1 : Sl00Src) {r : ((List ByteArray) × Sl00Src)} (h : p_spec_l21Keys a_0 a_1 = some r) : callL E 78 [.bp 0 0, IN a_0] ([some (.box [.d (.arr (a_1.Code.map rU)), IN a_1.At, .d (.lit (.int .u64 a_1.Seed))])] : Fo) = some (.d (.arr (r.1.map rS)), ([some (.box [.d (.arr (r.2.Code.map rU)), IN r.2.At, .d (.lit (.int .u64 r.2.Seed))])] : Fo)) := by
  unfold p_spec_l21Keys at h
  refine callW (fu := Try.f78) rfl rfl rfl NN ?_
  intro lp cl hlp hcl
  conv => lhs; whnf
  obtain ⟨y1, h_y1, h⟩ := callK_inv h
  rw [cl_eq hcl (L_spec_l00Src_pick a_0 a_1 h_y1)]
  rotate_left
  · show _ = _; kernel_rfl
  · show _ = _; kernel_rfl
  conv => lhs; whnf
  refine loop_iter hlp (fun ((v2, v3, v4) : (Int × Sl00Src × (List ByteArray))) => ([.bp 0 0, .dead, .dead, .dead, .dead, .sl 1, IN v2] ++ List.replicate 14 .dead : List V)) (fun ((v2, v3, v4) : (Int × Sl00Src × (List ByteArray))) => ([some (.box [.d (.arr (v3.Code.map rU)), IN v3.At, .d (.lit (.int .u64 v3.Seed))]), some (.arr 9 1 (v4.map rS))] : Fo)) (fun (r : ((List ByteArray) × Sl00Src)) => ((.d (.arr (r.1.map rS)) : V), ([some (.box [.d (.arr (r.2.Code.map rU)), IN r.2.At, .d (.lit (.int .u64 r.2.Seed))])] : Fo))) ?_ (y1.1, y1.2, ([] : List ByteArray)) _ (fun kk => by kernel_rfl) h
  clear h
  rintro next_nx5 nx5 hnx5 ⟨v2, v3, v4⟩ r h
  try dsimp only at h
  conv => lhs; whnf
  cases hb6 : (decide (v2 > 0))
  · replace h := ifF h (decF hb6); conv => lhs; whnf
    obtain rfl := Option.some.inj h; show _ = _; kernel_rfl

  · replace h := ifT h (decT hb6); conv => lhs; whnf
    obtain ⟨y7, h_y7, h⟩ := callK_inv h
    rw [cl_eq hcl (L_spec_l17DrawKey v3 h_y7)]
    rotate_left
    · show _ = _; kernel_rfl
    · show _ = _; kernel_rfl
    conv => lhs; whnf
    obtain ⟨hg8, h⟩ := grd_inv h
    rw [app_eq hg8 ?h1 ?h2]
    case h1 => first | exact rfl | (simp only [List.length_map, List.length_cons, List.length_nil]; done) | (rw [List.length_map]; rfl)
    case h2 => exact rfl
    conv => lhs; whnf
    first | (rw [map_app_of (r := rS) (l := v4) (m := ([y7.1] : List ByteArray)) ?hh]; case hh => exact rfl) | skip
    exact hnx5 _ _ _ _ (fun kk => by kernel_rfl) h

noncomputable def p_spec_A8Keys (a_0 : List Int) : Option (List ByteArray) :=
  callK (p_spec_l00From a_0) fun y1 =>
  callK (p_spec_l21Keys 9 y1) fun y2 =>
  some y2.1

set_option maxHeartbeats 4000000 in
theorem L_spec_A8Keys (a_0 : List Int) {r : (List ByteArray)} (h : p_spec_A8Keys a_0 = some r) : callL E 13 [.d (.arr (a_0.map rU))] ([] : Fo) = some (.d (.arr (r.map rS)), ([] : Fo)) := by
  unfold p_spec_A8Keys at h
  refine callW (fu := Try.f13) rfl rfl rfl NN ?_
  intro lp cl hlp hcl
  conv => lhs; whnf
  obtain ⟨y1, h_y1, h⟩ := callK_inv h
  rw [cl_eq hcl (L_spec_l00From a_0 h_y1)]
  rotate_left
  · show _ = _; kernel_rfl
  · show _ = _; kernel_rfl
  conv => lhs; whnf
  obtain ⟨y2, h_y2, h⟩ := callK_inv h
  rw [cl_eq hcl (L_spec_l21Keys 9 y1 h_y2)]
  rotate_left
  · show _ = _; kernel_rfl
  · show _ = _; kernel_rfl
  conv => lhs; whnf
  obtain rfl := Option.some.inj h; show _ = _; kernel_rfl


noncomputable def p_laws_a8At (a_0 : List Int) (a_1 : Int) (a_2 : Int) : Option Int :=
  if a_2 ≤ 1 then
    some 0
  else
    grd (a_0.length < 4611686018427387904) <|
    forK a_0 (fun (i6 : Nat) x9 (v7 : Int) (nx8 : Int → Option _) =>
      nx8 (Int.tmod (IntKind.i64.wrap ((IntKind.i64.wrap (v7 * 31)) + (IntKind.i64.wrap x9))) 1000003)) (IntKind.i64.wrap ((IntKind.i64.wrap (a_1 * 7)) + 3)) (fun (v7 : Int) =>
      grd (a_2 ≠ 0) <|
      some (Int.tmod v7 a_2))

set_option maxHeartbeats 4000000 in
theorem L_laws_a8At (a_0 : List Int) (a_1 : Int) (a_2 : Int) {r : Int} (h : p_laws_a8At a_0 a_1 a_2 = some r) : callL E 61 [.d (.arr (a_0.map rU)), IN a_1, IN a_2] ([] : Fo) = some (IN r, ([] : Fo)) := by
  unfold p_laws_a8At at h
  refine callW (fu := Try.f61) rfl rfl rfl NN ?_
  intro lp cl hlp hcl
  conv => lhs; whnf
  cases hb1 : (decide (a_2 ≤ 1))
  · replace h := ifF h (decF hb1); conv => lhs; whnf
    obtain ⟨hl_i6, h⟩ := grd_inv h
    refine loop_for hlp (l := a_0) hl_i6 (fun (i6 : Nat) (v7 : Int) => ([.d (.arr (a_0.map rU)), .dead, IN a_2, .dead, .dead, .dead, .dead, IN v7, IN (i6 : Int)] ++ List.replicate 23 .dead : List V)) (fun (i6 : Nat) (v7 : Int) => ([] : Fo)) (fun (r : Int) => ((IN r : V), ([] : Fo))) ?_ ?_ (IntKind.i64.wrap ((IntKind.i64.wrap (a_1 * 7)) + 3)) _ (fun kk => by kernel_rfl) h
    · clear h
      rintro next_nx8 nx8 i6 hi_i6 hnx8 v7 r h
      try dsimp only at h
      have hn_i6 : i6 < 4611686018427387904 := by omega
      have hx_x9 := get_map rU a_0 i6 hi_i6
      generalize a_0[i6] = x9 at h hx_x9
      have hd_i6 : (decide ((i6 : Int) < (a_0.length : Int))) = true := decide_eq_true (by omega)
      conv => lhs; whnf
      try rw [len_of (l := a_0) (r := rU)]
      try rw [hd_i6]
      conv => lhs; whnf
      try (rw [decide_eq_true hq_x9]; conv => lhs; whnf)
      rw [hx_x9]
      conv => lhs; whnf
      rw [hx_x9]
      conv => lhs; whnf
      try (rw [rem_run _ _ _ 1000003 (by decide)]; conv => lhs; whnf)
      conv => lhs; whnf
      rw [wrap_nat i6 (by have := hn_i6; omega)]
      exact hnx8 _ _ _ _ (fun kk => by kernel_rfl) h
    · clear h
      rintro next_nx8 v7 r h
      try dsimp only at h
      have hd_i6 : (decide ((a_0.length : Int) < (a_0.length : Int))) = false := decide_eq_false (by omega)
      conv => lhs; whnf
      try rw [len_of (l := a_0) (r := rU)]
      try rw [hd_i6]
      conv => lhs; whnf
      obtain ⟨hg10, h⟩ := grd_inv h
      rw [rem_run _ _ _ _ hg10]
      conv => lhs; whnf
      obtain rfl := Option.some.inj h; show _ = _; kernel_rfl

  · replace h := ifT h (decT hb1); conv => lhs; whnf
    obtain rfl := Option.some.inj h; show _ = _; kernel_rfl


noncomputable def p_laws_a8Mix (a_0 : List Int) (a_1 : Int) : Option (List Int) :=
  callK (p_laws_a8At a_0 a_1 256) fun y1 =>
  grd (appOk (2 + a_0.length) 1 = true) <|
  some (([(IntKind.u8.wrap a_1), (IntKind.u8.wrap y1)] : List Int) ++ a_0)

set_option maxHeartbeats 4000000 in
theorem L_laws_a8Mix (a_0 : List Int) (a_1 : Int) {r : (List Int)} (h : p_laws_a8Mix a_0 a_1 = some r) : callL E 14 [.d (.arr (a_0.map rU)), IN a_1] ([] : Fo) = some (.d (.arr (r.map rU)), ([] : Fo)) := by
  unfold p_laws_a8Mix at h
  refine callW (fu := Try.f14) rfl rfl rfl NN ?_
  intro lp cl hlp hcl
  conv => lhs; whnf
  obtain ⟨y1, h_y1, h⟩ := callK_inv h
  rw [cl_eq hcl (L_laws_a8At a_0 a_1 256 h_y1)]
  rotate_left
  · show _ = _; kernel_rfl
  · show _ = _; kernel_rfl
  conv => lhs; whnf
  obtain ⟨hg2, h⟩ := grd_inv h
  rw [app_eq hg2 ?h1 ?h2]
  case h1 => first | exact rfl | (simp only [List.length_map, List.length_cons, List.length_nil]; done) | (rw [List.length_map]; rfl)
  case h2 => exact rfl
  conv => lhs; whnf
  rw [allLen_map rU _ rU_len]
  conv => lhs; whnf
  first | (rw [map_app_of (r := rU) (l := ([(IntKind.u8.wrap a_1), (IntKind.u8.wrap y1)] : List Int)) (m := a_0) ?hh]; case hh => exact rfl) | skip
  obtain rfl := Option.some.inj h; show _ = _; kernel_rfl


noncomputable def p_impl_ValidKey (a_0 : ByteArray) : Option Bool :=
  some (inR (ByteArray.size a_0 : Int) 1 8)

set_option maxHeartbeats 4000000 in
theorem L_impl_ValidKey (a_0 : ByteArray) {r : Bool} (h : p_impl_ValidKey a_0 = some r) : callL E 82 [ST a_0] ([] : Fo) = some (BO r, ([] : Fo)) := by
  unfold p_impl_ValidKey at h
  refine callW (fu := Try.f82) rfl rfl rfl NN ?_
  intro lp cl hlp hcl
  conv => lhs; whnf
  rw [cl_eq hcl (L_impl_within (ByteArray.size a_0 : Int) 1 8 (pl_within (ByteArray.size a_0 : Int) 1 8))]
  rotate_left
  · show _ = _; kernel_rfl
  · show _ = _; kernel_rfl
  conv => lhs; whnf
  obtain rfl := Option.some.inj h; show _ = _; kernel_rfl


noncomputable def p_impl_FilterFor_c1 (a_0 : ByteArray) : Option Bool :=
  callK (p_impl_ValidKey a_0) fun y1 =>
  some (!y1)

set_option maxHeartbeats 4000000 in
theorem L_impl_FilterFor_c1 (a_0 : ByteArray) {r : Bool} (h : p_impl_FilterFor_c1 a_0 = some r) : callL E 81 [ST a_0] ([] : Fo) = some (BO r, ([] : Fo)) := by
  unfold p_impl_FilterFor_c1 at h
  refine callW (fu := Try.f81) rfl rfl rfl NN ?_
  intro lp cl hlp hcl
  conv => lhs; whnf
  obtain ⟨y1, h_y1, h⟩ := callK_inv h
  rw [cl_eq hcl (L_impl_ValidKey a_0 h_y1)]
  rotate_left
  · show _ = _; kernel_rfl
  · show _ = _; kernel_rfl
  conv => lhs; whnf
  obtain rfl := Option.some.inj h; show _ = _; kernel_rfl


noncomputable def p_slices_IndexFunc_impl_FilterFor_c1 (a_0 : List ByteArray) : Option Int :=
  grd (a_0.length < 4611686018427387904) <|
  forK a_0 (fun (i6 : Nat) x8 (_ : Unit) (nx7 : Unit → Option _) =>
    callK (p_impl_FilterFor_c1 x8) fun y9 =>
    if y9 = true then
      some (i6 : Int)
    else
      nx7 ()) () (fun (_ : Unit) =>
    some (-1))

set_option maxHeartbeats 4000000 in
theorem L_slices_IndexFunc_impl_FilterFor_c1 (a_0 : List ByteArray) {r : Int} (h : p_slices_IndexFunc_impl_FilterFor_c1 a_0 = some r) : callL E 175 [.d (.arr (a_0.map rS)), .clo 81 []] ([] : Fo) = some (IN r, ([] : Fo)) := by
  unfold p_slices_IndexFunc_impl_FilterFor_c1 at h
  refine callW (fu := Try.f175) rfl rfl rfl NN ?_
  intro lp cl hlp hcl
  conv => lhs; whnf
  try rw [len_of (l := a_0) (r := rS)]
  obtain ⟨hl_i6, h⟩ := grd_inv h
  refine loop_for hlp (l := a_0) hl_i6 (fun (i6 : Nat) (_ : Unit) => ([.d (.arr (a_0.map rS)), .clo 81 [], .dead, .dead, .dead, .dead, .dead, IN (a_0.length : Int), IN (i6 : Int)] ++ List.replicate 10 .dead : List V)) (fun (i6 : Nat) (_ : Unit) => ([] : Fo)) (fun (r : Int) => ((IN r : V), ([] : Fo))) ?_ ?_ () _ (fun kk => by kernel_rfl) h
  · clear h
    rintro next_nx7 nx7 i6 hi_i6 hnx7 ⟨⟩ r h
    try dsimp only at h
    have hn_i6 : i6 < 4611686018427387904 := by omega
    have hx_x8 := get_map rS a_0 i6 hi_i6
    generalize a_0[i6] = x8 at h hx_x8
    have hd_i6 : (decide ((i6 : Int) < (a_0.length : Int))) = true := decide_eq_true (by omega)
    conv => lhs; whnf
    try rw [hd_i6]
    conv => lhs; whnf
    try (rw [decide_eq_true hq_x8]; conv => lhs; whnf)
    rw [hx_x8]
    conv => lhs; whnf
    rw [hx_x8]
    conv => lhs; whnf
    obtain ⟨y9, h_y9, h⟩ := callK_inv h
    rw [cl_eq hcl (L_impl_FilterFor_c1 x8 h_y9)]
    rotate_left
    · show _ = _; kernel_rfl
    · show _ = _; kernel_rfl
    conv => lhs; whnf
    cases hb10 : y9
    · replace h := ifF h (booF hb10); conv => lhs; whnf
      rw [wrap_nat i6 (by have := hn_i6; omega)]
      exact hnx7 _ _ _ _ (fun kk => by kernel_rfl) h
    · replace h := ifT h hb10; conv => lhs; whnf
      obtain rfl := Option.some.inj h; show _ = _; kernel_rfl

  · clear h
    rintro next_nx7 ⟨⟩ r h
    try dsimp only at h
    have hd_i6 : (decide ((a_0.length : Int) < (a_0.length : Int))) = false := decide_eq_false (by omega)
    conv => lhs; whnf
    try rw [hd_i6]
    conv => lhs; whnf
    obtain rfl := Option.some.inj h; show _ = _; kernel_rfl


noncomputable def p_slices_ContainsFunc_impl_FilterFor_c1 (a_0 : List ByteArray) : Option Bool :=
  callK (p_slices_IndexFunc_impl_FilterFor_c1 a_0) fun y1 =>
  some (decide (y1 ≥ 0))

set_option maxHeartbeats 4000000 in
theorem L_slices_ContainsFunc_impl_FilterFor_c1 (a_0 : List ByteArray) {r : Bool} (h : p_slices_ContainsFunc_impl_FilterFor_c1 a_0 = some r) : callL E 80 [.d (.arr (a_0.map rS)), .clo 81 []] ([] : Fo) = some (BO r, ([] : Fo)) := by
  unfold p_slices_ContainsFunc_impl_FilterFor_c1 at h
  refine callW (fu := Try.f80) rfl rfl rfl NN ?_
  intro lp cl hlp hcl
  conv => lhs; whnf
  obtain ⟨y1, h_y1, h⟩ := callK_inv h
  rw [cl_eq hcl (L_slices_IndexFunc_impl_FilterFor_c1 a_0 h_y1)]
  rotate_left
  · show _ = _; kernel_rfl
  · show _ = _; kernel_rfl
  conv => lhs; whnf
  obtain rfl := Option.some.inj h; show _ = _; kernel_rfl


noncomputable def p_impl_KeyHash (a_0 : ByteArray) (a_1 : Int) : Option Int :=
  grd ((ByteArray.size a_0 : Int) < 4611686018427387904) <|
  forI (ByteArray.size a_0 : Int) (fun (i5 : Nat) (v6 : Int) (nx7 : Int → Option _) =>
    getB a_0 (i5 : Int) fun c8 =>
    nx7 (IntKind.u32.wrap ((xorK .u32 v6 (IntKind.u32.wrap c8)) * 16777619))) (xorK .u32 2166136261 (IntKind.u32.wrap a_1)) (fun (v6 : Int) =>
    some (IntKind.i64.wrap v6))

set_option maxHeartbeats 4000000 in
theorem L_impl_KeyHash (a_0 : ByteArray) (a_1 : Int) {r : Int} (h : p_impl_KeyHash a_0 a_1 = some r) : callL E 252 [ST a_0, IN a_1] ([] : Fo) = some (IN r, ([] : Fo)) := by
  unfold p_impl_KeyHash at h
  refine callW (fu := Try.f252) rfl rfl rfl NN ?_
  intro lp cl hlp hcl
  conv => lhs; whnf
  obtain ⟨hl_i5, h⟩ := grd_inv h
  refine loop_forI hlp (n := (ByteArray.size a_0 : Int)) hl_i5 (fun (i5 : Nat) (v6 : Int) => ([ST a_0, .dead, .dead, .dead, .dead, .d (.lit (.int .u32 v6)), .dead, .dead, .dead, .dead, .dead, IN (ByteArray.size a_0 : Int), IN (i5 : Int)] ++ List.replicate 12 .dead : List V)) (fun (i5 : Nat) (v6 : Int) => ([] : Fo)) (fun (r : Int) => ((IN r : V), ([] : Fo))) ?_ ?_ (xorK .u32 2166136261 (IntKind.u32.wrap a_1)) _ (fun kk => by kernel_rfl) h
  · clear h
    rintro next_nx7 nx7 i5 hi_i5 hnx7 v6 r h
    try dsimp only at h
    have hn_i5 : i5 < 4611686018427387904 := by omega
    have hd_i5 : (decide ((i5 : Int) < (ByteArray.size a_0 : Int))) = true := decide_eq_true (by omega)
    conv => lhs; whnf
    try rw [hd_i5]
    conv => lhs; whnf
    obtain ⟨c8', hq_c8, hc_c8, h⟩ := getB_inv h
    try (rw [decide_eq_true hq_c8]; conv => lhs; whnf)
    rw [hc_c8]
    conv => lhs; whnf
    generalize he_c8 : (c8'.toNat : Int) = c8 at h ⊢
    conv => lhs; whnf
    rw [wrap_nat i5 (by have := hn_i5; omega)]
    exact hnx7 _ _ _ _ (fun kk => by kernel_rfl) h
  · clear h
    rintro next_nx7 v6 r h
    try dsimp only at h
    have hd_i5 : (decide (((Int.toNat (ByteArray.size a_0 : Int)) : Int) < (ByteArray.size a_0 : Int))) = false := decide_eq_false (by omega)
    conv => lhs; whnf
    try rw [hd_i5]
    conv => lhs; whnf
    obtain rfl := Option.some.inj h; show _ = _; kernel_rfl


noncomputable def p_impl_probes (a_0 : ByteArray) (a_1 : Int) : Option (List Int) :=
  callK (p_impl_KeyHash a_0 0) fun y1 =>
  callK (p_impl_KeyHash a_0 1) fun y2 =>
  grd ((4 : Int) < 4611686018427387904) <|
  forI (4 : Int) (fun (i6 : Nat) (v7 : List Int) (nx8 : (List Int) → Option _) =>
    grd ((IntKind.i64.wrap (8 * a_1)) ≠ 0) <|
    grd (appOk (v7.length + 1) 8 = true) <|
    nx8 (v7 ++ ([(Int.tmod (IntKind.i64.wrap (y1 + (IntKind.i64.wrap ((i6 : Int) * (orK .i64 y2 1))))) (IntKind.i64.wrap (8 * a_1)))] : List Int))) ([] : List Int) (fun (v7 : List Int) =>
    some v7)

set_option maxHeartbeats 4000000 in
theorem L_impl_probes (a_0 : ByteArray) (a_1 : Int) {r : (List Int)} (h : p_impl_probes a_0 a_1 = some r) : callL E 183 [ST a_0, IN a_1] ([] : Fo) = some (.d (.arr (r.map rI)), ([] : Fo)) := by
  unfold p_impl_probes at h
  refine callW (fu := Try.f183) rfl rfl rfl NN ?_
  intro lp cl hlp hcl
  conv => lhs; whnf
  obtain ⟨y1, h_y1, h⟩ := callK_inv h
  rw [cl_eq hcl (L_impl_KeyHash a_0 0 h_y1)]
  rotate_left
  · show _ = _; kernel_rfl
  · show _ = _; kernel_rfl
  conv => lhs; whnf
  obtain ⟨y2, h_y2, h⟩ := callK_inv h
  rw [cl_eq hcl (L_impl_KeyHash a_0 1 h_y2)]
  rotate_left
  · show _ = _; kernel_rfl
  · show _ = _; kernel_rfl
  conv => lhs; whnf
  obtain ⟨hl_i6, h⟩ := grd_inv h
  refine loop_forI hlp (n := (4 : Int)) hl_i6 (fun (i6 : Nat) (v7 : List Int) => ([.dead, IN a_1, .dead, .dead, .dead, IN y1, IN (orK .i64 y2 1), .sl 0, .dead, .dead, .dead, .dead, .dead, .dead, IN (i6 : Int)] ++ List.replicate 15 .dead : List V)) (fun (i6 : Nat) (v7 : List Int) => ([some (.arr 2 1 (v7.map rI))] : Fo)) (fun (r : (List Int)) => ((.d (.arr (r.map rI)) : V), ([] : Fo))) ?_ ?_ ([] : List Int) _ (fun kk => by kernel_rfl) h
  · clear h
    rintro next_nx8 nx8 i6 hi_i6 hnx8 v7 r h
    try dsimp only at h
    have hn_i6 : i6 < 4611686018427387904 := by omega
    have hd_i6 : (decide ((i6 : Int) < 4)) = true := decide_eq_true (by omega)
    conv => lhs; whnf
    try rw [hd_i6]
    conv => lhs; whnf
    obtain ⟨hg9, h⟩ := grd_inv h
    rw [rem_run _ _ _ _ hg9]
    conv => lhs; whnf
    obtain ⟨hg10, h⟩ := grd_inv h
    rw [app_eq hg10 ?h1 ?h2]
    case h1 => first | exact rfl | (simp only [List.length_map, List.length_cons, List.length_nil]; done) | (rw [List.length_map]; rfl)
    case h2 => exact rfl
    conv => lhs; whnf
    first | (rw [map_app_of (r := rI) (l := v7) (m := ([(Int.tmod (IntKind.i64.wrap (y1 + (IntKind.i64.wrap ((i6 : Int) * (orK .i64 y2 1))))) (IntKind.i64.wrap (8 * a_1)))] : List Int)) ?hh]; case hh => exact rfl) | skip
    rw [wrap_nat i6 (by have := hn_i6; omega)]
    exact hnx8 _ _ _ _ (fun kk => by kernel_rfl) h
  · clear h
    rintro next_nx8 v7 r h
    try dsimp only at h
    have hd_i6 : (decide (((Int.toNat 4) : Int) < 4)) = false := decide_eq_false (by omega)
    conv => lhs; whnf
    try rw [hd_i6]
    conv => lhs; whnf
    obtain rfl := Option.some.inj h; show _ = _; kernel_rfl


noncomputable def p_impl_added (a_0 : ByteArray) (a_1 : List ByteArray) : Option ByteArray :=
  grd (appOk (ByteArray.size a_0) 1 = true) <|
  grd (a_1.length < 4611686018427387904) <|
  forK a_1 (fun (i16 : Nat) x19 (v17 : List Int) (nx18 : (List Int) → Option _) =>
    callK (p_impl_probes x19 (ByteArray.size a_0 : Int)) fun y20 =>
    grd (y20.length < 4611686018427387904) <|
    forK y20 (fun (i26 : Nat) x29 (v27 : List Int) (nx28 : (List Int) → Option _) =>
      getK v27 (IntKind.i64.wrap (Int.tdiv x29 8)) fun x30 =>
      grd (0 ≤ (Int.tmod x29 8)) <|
      nx28 (v27.set (Int.toNat (IntKind.i64.wrap (Int.tdiv x29 8))) (orK .u8 x30 (IntKind.u8.wrap (1 * 2 ^ (min (Int.toNat (Int.tmod x29 8)) IntKind.u8.bits)))))) v17 (fun (v27 : List Int) =>
      nx18 v27)) (bytesL a_0) (fun (v17 : List Int) =>
    some (bytesOf (v17.map rU)))

set_option maxHeartbeats 4000000 in
theorem L_impl_added (a_0 : ByteArray) (a_1 : List ByteArray) {r : ByteArray} (h : p_impl_added a_0 a_1 = some r) : callL E 88 [ST a_0, .d (.arr (a_1.map rS))] ([] : Fo) = some (ST r, ([] : Fo)) := by
  unfold p_impl_added at h
  refine callW (fu := Try.f88) rfl rfl rfl NN ?_
  intro lp cl hlp hcl
  conv => lhs; whnf
  obtain ⟨hg31, h⟩ := grd_inv h
  rw [hg31]
  conv => lhs; whnf
  conv => lhs; whnf
  try rw [bytesL_of]
  try rw [len_of (l := a_1) (r := rS)]
  obtain ⟨hl_i16, h⟩ := grd_inv h
  refine loop_for hlp (l := a_1) hl_i16 (fun (i16 : Nat) (v17 : List Int) => ([ST a_0, .dead, .dead, .dead, .dead, .sl 0, .dead, .dead, .dead, .dead, .dead, .dead, .d (.arr (a_1.map rS)), IN (a_1.length : Int), IN (i16 : Int)] ++ List.replicate 26 .dead : List V)) (fun (i16 : Nat) (v17 : List Int) => ([some (.arr 5 1 (v17.map rU))] : Fo)) (fun (r : ByteArray) => ((ST r : V), ([] : Fo))) ?_ ?_ (bytesL a_0) _ (fun kk => by kernel_rfl) h
  · clear h
    rintro next_nx18 nx18 i16 hi_i16 hnx18 v17 r h
    try dsimp only at h
    have hn_i16 : i16 < 4611686018427387904 := by omega
    have hx_x19 := get_map rS a_1 i16 hi_i16
    generalize a_1[i16] = x19 at h hx_x19
    have hd_i16 : (decide ((i16 : Int) < (a_1.length : Int))) = true := decide_eq_true (by omega)
    conv => lhs; whnf
    try rw [hd_i16]
    conv => lhs; whnf
    try (rw [decide_eq_true hq_x19]; conv => lhs; whnf)
    rw [hx_x19]
    conv => lhs; whnf
    rw [hx_x19]
    conv => lhs; whnf
    obtain ⟨y20, h_y20, h⟩ := callK_inv h
    rw [cl_eq hcl (L_impl_probes x19 (ByteArray.size a_0 : Int) h_y20)]
    rotate_left
    · show _ = _; kernel_rfl
    · show _ = _; kernel_rfl
    conv => lhs; whnf
    try rw [len_of (l := y20) (r := rI)]
    obtain ⟨hl_i26, h⟩ := grd_inv h
    refine loop_for hlp (l := y20) hl_i26 (fun (i26 : Nat) (v27 : List Int) => ([ST a_0, .dead, .dead, .dead, .dead, .sl 0, .dead, .dead, .dead, .dead, .dead, .dead, .d (.arr (a_1.map rS)), IN (a_1.length : Int), IN (i16 : Int), .dead, .dead, .dead, .dead, .dead, .dead, .d (.arr (y20.map rI)), IN (y20.length : Int), IN (i26 : Int)] ++ List.replicate 17 .dead : List V)) (fun (i26 : Nat) (v27 : List Int) => ([some (.arr 5 1 (v27.map rU))] : Fo)) (fun (r : ByteArray) => ((ST r : V), ([] : Fo))) ?_ ?_ v17 _ (fun kk => by kernel_rfl) h
    · clear h
      rintro next_nx28 nx28 i26 hi_i26 hnx28 v27 r h
      try dsimp only at h
      have hn_i26 : i26 < 4611686018427387904 := by omega
      have hx_x29 := get_map rI y20 i26 hi_i26
      generalize y20[i26] = x29 at h hx_x29
      have hd_i26 : (decide ((i26 : Int) < (y20.length : Int))) = true := decide_eq_true (by omega)
      conv => lhs; whnf
      try rw [hd_i26]
      conv => lhs; whnf
      try (rw [decide_eq_true hq_x29]; conv => lhs; whnf)
      rw [hx_x29]
      conv => lhs; whnf
      rw [hx_x29]
      conv => lhs; whnf
      try (rw [quo_run _ _ _ 8 (by decide)]; conv => lhs; whnf)
      conv => lhs; whnf
      obtain ⟨x30, hq_x30, hx_x30', h⟩ := getK_inv h
      have hx_x30 := get_of (r := rU) hx_x30'
      try (rw [decide_eq_true hq_x30]; conv => lhs; whnf)
      rw [hx_x30]
      conv => lhs; whnf
      rw [hx_x30]
      conv => lhs; whnf
      try (rw [rem_run _ _ _ 8 (by decide)]; conv => lhs; whnf)
      conv => lhs; whnf
      obtain ⟨hg32, h⟩ := grd_inv h
      try (rw [shl_run _ _ _ _ _ hg32]; conv => lhs; whnf)
      conv => lhs; whnf
      try (rw [decide_eq_true hq_x30]; conv => lhs; whnf)
      rw [hx_x30]
      conv => lhs; whnf
      rw [hx_x30]
      conv => lhs; whnf
      first | (rw [map_set_of (r := rU) (l := v27) (x := (orK .u8 x30 (IntKind.u8.wrap (1 * 2 ^ (min (Int.toNat (Int.tmod x29 8)) IntKind.u8.bits))))) ?hh]; case hh => exact rfl) | skip
      rw [wrap_nat i26 (by have := hn_i26; omega)]
      exact hnx28 _ _ _ _ (fun kk => by kernel_rfl) h
    · clear h
      rintro next_nx28 v27 r h
      try dsimp only at h
      have hd_i26 : (decide ((y20.length : Int) < (y20.length : Int))) = false := decide_eq_false (by omega)
      conv => lhs; whnf
      try rw [hd_i26]
      conv => lhs; whnf
      rw [wrap_nat i16 (by have := hn_i16; omega)]
      exact hnx18 _ _ _ _ (fun kk => by kernel_rfl) h
  · clear h
    rintro next_nx18 v17 r h
    try dsimp only at h
    have hd_i16 : (decide ((a_1.length : Int) < (a_1.length : Int))) = false := decide_eq_false (by omega)
    conv => lhs; whnf
    try rw [hd_i16]
    conv => lhs; whnf
    try rw [byteRows_rU]
    conv => lhs; whnf
    obtain rfl := Option.some.inj h; show _ = _; kernel_rfl


noncomputable def p_impl_filterFor (a_0 : List ByteArray) : Option ByteArray :=
  grd (0 ≤ (if (IntKind.i64.wrap (Int.tdiv (IntKind.i64.wrap ((IntKind.i64.wrap (10 * (a_0.length : Int))) + 7)) 8)) > 1 then (IntKind.i64.wrap (Int.tdiv (IntKind.i64.wrap ((IntKind.i64.wrap (10 * (a_0.length : Int))) + 7)) 8)) else 1) ∧ (if (IntKind.i64.wrap (Int.tdiv (IntKind.i64.wrap ((IntKind.i64.wrap (10 * (a_0.length : Int))) + 7)) 8)) > 1 then (IntKind.i64.wrap (Int.tdiv (IntKind.i64.wrap ((IntKind.i64.wrap (10 * (a_0.length : Int))) + 7)) 8)) else 1) ≤ 140737488355328 ∧ (ByteArray.size (⟨#[0]⟩ : ByteArray)) * Int.toNat (if (IntKind.i64.wrap (Int.tdiv (IntKind.i64.wrap ((IntKind.i64.wrap (10 * (a_0.length : Int))) + 7)) 8)) > 1 then (IntKind.i64.wrap (Int.tdiv (IntKind.i64.wrap ((IntKind.i64.wrap (10 * (a_0.length : Int))) + 7)) 8)) else 1) ≤ 140737488355328) <|
  callK (p_impl_added (repB (⟨#[0]⟩ : ByteArray) (if (IntKind.i64.wrap (Int.tdiv (IntKind.i64.wrap ((IntKind.i64.wrap (10 * (a_0.length : Int))) + 7)) 8)) > 1 then (IntKind.i64.wrap (Int.tdiv (IntKind.i64.wrap ((IntKind.i64.wrap (10 * (a_0.length : Int))) + 7)) 8)) else 1)) a_0) fun y1 =>
  some y1

set_option maxHeartbeats 4000000 in
theorem L_impl_filterFor (a_0 : List ByteArray) {r : ByteArray} (h : p_impl_filterFor a_0 = some r) : callL E 83 [.d (.arr (a_0.map rS))] ([] : Fo) = some (ST r, ([] : Fo)) := by
  unfold p_impl_filterFor at h
  refine callW (fu := Try.f83) rfl rfl rfl NN ?_
  intro lp cl hlp hcl
  conv => lhs; whnf
  try rw [len_of (l := a_0) (r := rS)]
  try (rw [quo_run _ _ _ 8 (by decide)]; conv => lhs; whnf)
  conv => lhs; whnf
  obtain ⟨hg2, h⟩ := grd_inv h
  rw [cl_eq hcl (f_Repeat hg2)]
  rotate_left
  · exact rfl
  · exact rfl
  conv => lhs; whnf
  obtain ⟨y1, h_y1, h⟩ := callK_inv h
  rw [cl_eq hcl (L_impl_added (repB (⟨#[0]⟩ : ByteArray) (if (IntKind.i64.wrap (Int.tdiv (IntKind.i64.wrap ((IntKind.i64.wrap (10 * (a_0.length : Int))) + 7)) 8)) > 1 then (IntKind.i64.wrap (Int.tdiv (IntKind.i64.wrap ((IntKind.i64.wrap (10 * (a_0.length : Int))) + 7)) 8)) else 1)) a_0 h_y1)]
  rotate_left
  · show _ = _; kernel_rfl
  · show _ = _; kernel_rfl
  conv => lhs; whnf
  obtain rfl := Option.some.inj h; show _ = _; kernel_rfl


noncomputable def p_impl_FilterFor (a_0 : List ByteArray) : Option (ByteArray × Int) :=
  callK (p_slices_ContainsFunc_impl_FilterFor_c1 a_0) fun y1 =>
  if y1 = true then
    some ((⟨#[]⟩ : ByteArray), 1)
  else
    if (a_0.length : Int) > 60 then
      some ((⟨#[]⟩ : ByteArray), 4)
    else
      callK (p_impl_filterFor a_0) fun y4 =>
      some (y4, 0)

set_option maxHeartbeats 4000000 in
theorem L_impl_FilterFor (a_0 : List ByteArray) {r : (ByteArray × Int)} (h : p_impl_FilterFor a_0 = some r) : callL E 15 [.d (.arr (a_0.map rS))] ([] : Fo) = some (.tup [ST r.1, IN r.2], ([] : Fo)) := by
  unfold p_impl_FilterFor at h
  refine callW (fu := Try.f15) rfl rfl rfl NN ?_
  intro lp cl hlp hcl
  conv => lhs; whnf
  obtain ⟨y1, h_y1, h⟩ := callK_inv h
  rw [cl_eq hcl (L_slices_ContainsFunc_impl_FilterFor_c1 a_0 h_y1)]
  rotate_left
  · show _ = _; kernel_rfl
  · show _ = _; kernel_rfl
  conv => lhs; whnf
  cases hb2 : y1
  · replace h := ifF h (booF hb2); conv => lhs; whnf
    try rw [len_of (l := a_0) (r := rS)]
    cases hb3 : (decide ((a_0.length : Int) > 60))
    · replace h := ifF h (decF hb3); conv => lhs; whnf
      obtain ⟨y4, h_y4, h⟩ := callK_inv h
      rw [cl_eq hcl (L_impl_filterFor a_0 h_y4)]
      rotate_left
      · show _ = _; kernel_rfl
      · show _ = _; kernel_rfl
      conv => lhs; whnf
      obtain rfl := Option.some.inj h; show _ = _; kernel_rfl

    · replace h := ifT h (decT hb3); conv => lhs; whnf
      obtain rfl := Option.some.inj h; show _ = _; kernel_rfl

  · replace h := ifT h hb2; conv => lhs; whnf
    obtain rfl := Option.some.inj h; show _ = _; kernel_rfl


noncomputable def p_impl_NewFilter (a_0 : Int) : Option (ByteArray × Int) :=
  if (inR a_0 1 80) = true then
    grd (0 ≤ a_0 ∧ a_0 ≤ 140737488355328 ∧ (ByteArray.size (⟨#[0]⟩ : ByteArray)) * Int.toNat a_0 ≤ 140737488355328) <|
    some ((repB (⟨#[0]⟩ : ByteArray) a_0), 0)
  else
    some ((⟨#[]⟩ : ByteArray), 2)

set_option maxHeartbeats 4000000 in
theorem L_impl_NewFilter (a_0 : Int) {r : (ByteArray × Int)} (h : p_impl_NewFilter a_0 = some r) : callL E 16 [IN a_0] ([] : Fo) = some (.tup [ST r.1, IN r.2], ([] : Fo)) := by
  unfold p_impl_NewFilter at h
  refine callW (fu := Try.f16) rfl rfl rfl NN ?_
  intro lp cl hlp hcl
  conv => lhs; whnf
  rw [cl_eq hcl (L_impl_within a_0 1 80 (pl_within a_0 1 80))]
  rotate_left
  · show _ = _; kernel_rfl
  · show _ = _; kernel_rfl
  conv => lhs; whnf
  cases hb1 : (inR a_0 1 80)
  · replace h := ifF h (booF hb1); conv => lhs; whnf
    obtain rfl := Option.some.inj h; show _ = _; kernel_rfl

  · replace h := ifT h hb1; conv => lhs; whnf
    obtain ⟨hg2, h⟩ := grd_inv h
    rw [cl_eq hcl (f_Repeat hg2)]
    rotate_left
    · exact rfl
    · exact rfl
    conv => lhs; whnf
    obtain rfl := Option.some.inj h; show _ = _; kernel_rfl


noncomputable def p_impl_filterOk (a_0 : ByteArray) : Option Bool :=
  some (inR (ByteArray.size a_0 : Int) 1 80)

set_option maxHeartbeats 4000000 in
theorem L_impl_filterOk (a_0 : ByteArray) {r : Bool} (h : p_impl_filterOk a_0 = some r) : callL E 86 [ST a_0] ([] : Fo) = some (BO r, ([] : Fo)) := by
  unfold p_impl_filterOk at h
  refine callW (fu := Try.f86) rfl rfl rfl NN ?_
  intro lp cl hlp hcl
  conv => lhs; whnf
  rw [cl_eq hcl (L_impl_within (ByteArray.size a_0 : Int) 1 80 (pl_within (ByteArray.size a_0 : Int) 1 80))]
  rotate_left
  · show _ = _; kernel_rfl
  · show _ = _; kernel_rfl
  conv => lhs; whnf
  obtain rfl := Option.some.inj h; show _ = _; kernel_rfl


noncomputable def p_math_bits_OnesCount8 (a_0 : Int) : Option Int :=
  getB (⟨#[0, 1, 1, 2, 1, 2, 2, 3, 1, 2, 2, 3, 2, 3, 3, 4, 1, 2, 2, 3, 2, 3, 3, 4, 2, 3, 3, 4, 3, 4, 4, 5, 1, 2, 2, 3, 2, 3, 3, 4, 2, 3, 3, 4, 3, 4, 4, 5, 2, 3, 3, 4, 3, 4, 4, 5, 3, 4, 4, 5, 4, 5, 5, 6, 1, 2, 2, 3, 2, 3, 3, 4, 2, 3, 3, 4, 3, 4, 4, 5, 2, 3, 3, 4, 3, 4, 4, 5, 3, 4, 4, 5, 4, 5, 5, 6, 2, 3, 3, 4, 3, 4, 4, 5, 3, 4, 4, 5, 4, 5, 5, 6, 3, 4, 4, 5, 4, 5, 5, 6, 4, 5, 5, 6, 5, 6, 6, 7, 1, 2, 2, 3, 2, 3, 3, 4, 2, 3, 3, 4, 3, 4, 4, 5, 2, 3, 3, 4, 3, 4, 4, 5, 3, 4, 4, 5, 4, 5, 5, 6, 2, 3, 3, 4, 3, 4, 4, 5, 3, 4, 4, 5, 4, 5, 5, 6, 3, 4, 4, 5, 4, 5, 5, 6, 4, 5, 5, 6, 5, 6, 6, 7, 2, 3, 3, 4, 3, 4, 4, 5, 3, 4, 4, 5, 4, 5, 5, 6, 3, 4, 4, 5, 4, 5, 5, 6, 4, 5, 5, 6, 5, 6, 6, 7, 3, 4, 4, 5, 4, 5, 5, 6, 4, 5, 5, 6, 5, 6, 6, 7, 4, 5, 5, 6, 5, 6, 6, 7, 5, 6, 6, 7, 6, 7, 7, 8]⟩ : ByteArray) a_0 fun c1 =>
  some (IntKind.i64.wrap c1)

set_option maxHeartbeats 4000000 in
theorem L_math_bits_OnesCount8 (a_0 : Int) {r : Int} (h : p_math_bits_OnesCount8 a_0 = some r) : callL E 182 [.d (.lit (.int .u8 a_0))] ([] : Fo) = some (IN r, ([] : Fo)) := by
  unfold p_math_bits_OnesCount8 at h
  refine callW (fu := Try.f182) rfl rfl rfl NN ?_
  intro lp cl hlp hcl
  conv => lhs; whnf
  obtain ⟨c1', hq_c1, hc_c1, h⟩ := getB_inv h
  try (rw [decide_eq_true hq_c1]; conv => lhs; whnf)
  first | rw [hc_c1] | (split; (case h_2 => rename_i hx; exact absurd (hc_c1.symm.trans hx) (by simp)); rename_i xx hx; obtain rfl := Option.some.inj (hc_c1.symm.trans hx))
  conv => lhs; whnf
  generalize he_c1 : (c1'.toNat : Int) = c1 at h ⊢
  conv => lhs; whnf
  obtain rfl := Option.some.inj h; show _ = _; kernel_rfl


noncomputable def p_impl_CountOnes (a_0 : ByteArray) : Option Int :=
  grd ((ByteArray.size a_0 : Int) < 4611686018427387904) <|
  forI (ByteArray.size a_0 : Int) (fun (i6 : Nat) (v7 : Int) (nx8 : Int → Option _) =>
    getB a_0 (i6 : Int) fun c9 =>
    callK (p_math_bits_OnesCount8 c9) fun y10 =>
    nx8 (IntKind.i64.wrap (v7 + y10))) 0 (fun (v7 : Int) =>
    some v7)

set_option maxHeartbeats 4000000 in
theorem L_impl_CountOnes (a_0 : ByteArray) {r : Int} (h : p_impl_CountOnes a_0 = some r) : callL E 87 [ST a_0] ([] : Fo) = some (IN r, ([] : Fo)) := by
  unfold p_impl_CountOnes at h
  refine callW (fu := Try.f87) rfl rfl rfl NN ?_
  intro lp cl hlp hcl
  conv => lhs; whnf
  obtain ⟨hl_i6, h⟩ := grd_inv h
  refine loop_forI hlp (n := (ByteArray.size a_0 : Int)) hl_i6 (fun (i6 : Nat) (v7 : Int) => ([ST a_0, .dead, .dead, IN v7, .dead, .dead, IN (ByteArray.size a_0 : Int), IN (i6 : Int)] ++ List.replicate 10 .dead : List V)) (fun (i6 : Nat) (v7 : Int) => ([] : Fo)) (fun (r : Int) => ((IN r : V), ([] : Fo))) ?_ ?_ 0 _ (fun kk => by kernel_rfl) h
  · clear h
    rintro next_nx8 nx8 i6 hi_i6 hnx8 v7 r h
    try dsimp only at h
    have hn_i6 : i6 < 4611686018427387904 := by omega
    have hd_i6 : (decide ((i6 : Int) < (ByteArray.size a_0 : Int))) = true := decide_eq_true (by omega)
    conv => lhs; whnf
    try rw [hd_i6]
    conv => lhs; whnf
    obtain ⟨c9', hq_c9, hc_c9, h⟩ := getB_inv h
    try (rw [decide_eq_true hq_c9]; conv => lhs; whnf)
    rw [hc_c9]
    conv => lhs; whnf
    generalize he_c9 : (c9'.toNat : Int) = c9 at h ⊢
    conv => lhs; whnf
    obtain ⟨y10, h_y10, h⟩ := callK_inv h
    rw [cl_eq hcl (L_math_bits_OnesCount8 c9 h_y10)]
    rotate_left
    · show _ = _; kernel_rfl
    · show _ = _; kernel_rfl
    conv => lhs; whnf
    rw [wrap_nat i6 (by have := hn_i6; omega)]
    exact hnx8 _ _ _ _ (fun kk => by kernel_rfl) h
  · clear h
    rintro next_nx8 v7 r h
    try dsimp only at h
    have hd_i6 : (decide (((Int.toNat (ByteArray.size a_0 : Int)) : Int) < (ByteArray.size a_0 : Int))) = false := decide_eq_false (by omega)
    conv => lhs; whnf
    try rw [hd_i6]
    conv => lhs; whnf
    obtain rfl := Option.some.inj h; show _ = _; kernel_rfl


noncomputable def p_impl_BitsSet (a_0 : ByteArray) : Option Int :=
  callK (p_impl_filterOk a_0) fun y1 =>
  if y1 = true then
    callK (p_impl_CountOnes a_0) fun y3 =>
    some y3
  else
    some 0

set_option maxHeartbeats 4000000 in
theorem L_impl_BitsSet (a_0 : ByteArray) {r : Int} (h : p_impl_BitsSet a_0 = some r) : callL E 17 [ST a_0] ([] : Fo) = some (IN r, ([] : Fo)) := by
  unfold p_impl_BitsSet at h
  refine callW (fu := Try.f17) rfl rfl rfl NN ?_
  intro lp cl hlp hcl
  conv => lhs; whnf
  obtain ⟨y1, h_y1, h⟩ := callK_inv h
  rw [cl_eq hcl (L_impl_filterOk a_0 h_y1)]
  rotate_left
  · show _ = _; kernel_rfl
  · show _ = _; kernel_rfl
  conv => lhs; whnf
  cases hb2 : y1
  · replace h := ifF h (booF hb2); conv => lhs; whnf
    obtain rfl := Option.some.inj h; show _ = _; kernel_rfl

  · replace h := ifT h hb2; conv => lhs; whnf
    obtain ⟨y3, h_y3, h⟩ := callK_inv h
    rw [cl_eq hcl (L_impl_CountOnes a_0 h_y3)]
    rotate_left
    · show _ = _; kernel_rfl
    · show _ = _; kernel_rfl
    conv => lhs; whnf
    obtain rfl := Option.some.inj h; show _ = _; kernel_rfl


noncomputable def p_impl_AddToFilter (a_0 : ByteArray) (a_1 : ByteArray) : Option (ByteArray × Int) :=
  callK (p_impl_filterOk a_0) fun y1 =>
  if y1 = true then
    callK (p_impl_ValidKey a_1) fun y3 =>
    if y3 = true then
      callK (p_impl_added a_0 ([a_1] : List ByteArray)) fun y5 =>
      some (y5, 0)
    else
      some ((⟨#[]⟩ : ByteArray), 1)
  else
    some ((⟨#[]⟩ : ByteArray), 1)

set_option maxHeartbeats 4000000 in
theorem L_impl_AddToFilter (a_0 : ByteArray) (a_1 : ByteArray) {r : (ByteArray × Int)} (h : p_impl_AddToFilter a_0 a_1 = some r) : callL E 18 [ST a_0, ST a_1] ([] : Fo) = some (.tup [ST r.1, IN r.2], ([] : Fo)) := by
  unfold p_impl_AddToFilter at h
  refine callW (fu := Try.f18) rfl rfl rfl NN ?_
  intro lp cl hlp hcl
  conv => lhs; whnf
  obtain ⟨y1, h_y1, h⟩ := callK_inv h
  rw [cl_eq hcl (L_impl_filterOk a_0 h_y1)]
  rotate_left
  · show _ = _; kernel_rfl
  · show _ = _; kernel_rfl
  conv => lhs; whnf
  cases hb2 : y1
  · replace h := ifF h (booF hb2); conv => lhs; whnf
    try (rw [hb2]; conv => lhs; whnf)
    try (rw [hb2]; conv => lhs; whnf)
    try (rw [hb2]; conv => lhs; whnf)
    obtain rfl := Option.some.inj h; show _ = _; kernel_rfl

  · replace h := ifT h hb2; conv => lhs; whnf
    try (rw [hb2]; conv => lhs; whnf)
    obtain ⟨y3, h_y3, h⟩ := callK_inv h
    rw [cl_eq hcl (L_impl_ValidKey a_1 h_y3)]
    rotate_left
    · show _ = _; kernel_rfl
    · show _ = _; kernel_rfl
    conv => lhs; whnf
    try (rw [hb2]; conv => lhs; whnf)
    try (rw [hb2]; conv => lhs; whnf)
    cases hb4 : y3
    · replace h := ifF h (booF hb4); conv => lhs; whnf
      obtain rfl := Option.some.inj h; show _ = _; kernel_rfl

    · replace h := ifT h hb4; conv => lhs; whnf
      obtain ⟨y5, h_y5, h⟩ := callK_inv h
      rw [cl_eq hcl (L_impl_added a_0 ([a_1] : List ByteArray) h_y5)]
      rotate_left
      · show _ = _; kernel_rfl
      · show _ = _; kernel_rfl
      conv => lhs; whnf
      obtain rfl := Option.some.inj h; show _ = _; kernel_rfl


noncomputable def p_impl_MergeFilters (a_0 : ByteArray) (a_1 : ByteArray) : Option (ByteArray × Int) :=
  callK (p_impl_filterOk a_0) fun y1 =>
  if y1 = true then
    callK (p_impl_filterOk a_1) fun y3 =>
    if y3 = true then
      if ¬ (ByteArray.size a_0 : Int) = (ByteArray.size a_1 : Int) then
        some ((⟨#[]⟩ : ByteArray), 2)
      else
        grd (appOk (ByteArray.size a_0) 1 = true) <|
        grd ((bytesL a_0).length < 4611686018427387904) <|
        forK (bytesL a_0) (fun (i11 : Nat) x14 (v12 : List Int) (nx13 : (List Int) → Option _) =>
          getK v12 (i11 : Int) fun x15 =>
          getB a_1 (i11 : Int) fun c16 =>
          nx13 (v12.set (Int.toNat (i11 : Int)) (orK .u8 x15 c16))) (bytesL a_0) (fun (v12 : List Int) =>
          some ((bytesOf (v12.map rU)), 0))
    else
      some ((⟨#[]⟩ : ByteArray), 1)
  else
    some ((⟨#[]⟩ : ByteArray), 1)

set_option maxHeartbeats 4000000 in
theorem L_impl_MergeFilters (a_0 : ByteArray) (a_1 : ByteArray) {r : (ByteArray × Int)} (h : p_impl_MergeFilters a_0 a_1 = some r) : callL E 19 [ST a_0, ST a_1] ([] : Fo) = some (.tup [ST r.1, IN r.2], ([] : Fo)) := by
  unfold p_impl_MergeFilters at h
  refine callW (fu := Try.f19) rfl rfl rfl NN ?_
  intro lp cl hlp hcl
  conv => lhs; whnf
  obtain ⟨y1, h_y1, h⟩ := callK_inv h
  rw [cl_eq hcl (L_impl_filterOk a_0 h_y1)]
  rotate_left
  · show _ = _; kernel_rfl
  · show _ = _; kernel_rfl
  conv => lhs; whnf
  cases hb2 : y1
  · replace h := ifF h (booF hb2); conv => lhs; whnf
    try (rw [hb2]; conv => lhs; whnf)
    try (rw [hb2]; conv => lhs; whnf)
    try (rw [hb2]; conv => lhs; whnf)
    obtain rfl := Option.some.inj h; show _ = _; kernel_rfl

  · replace h := ifT h hb2; conv => lhs; whnf
    try (rw [hb2]; conv => lhs; whnf)
    obtain ⟨y3, h_y3, h⟩ := callK_inv h
    rw [cl_eq hcl (L_impl_filterOk a_1 h_y3)]
    rotate_left
    · show _ = _; kernel_rfl
    · show _ = _; kernel_rfl
    conv => lhs; whnf
    try (rw [hb2]; conv => lhs; whnf)
    try (rw [hb2]; conv => lhs; whnf)
    cases hb4 : y3
    · replace h := ifF h (booF hb4); conv => lhs; whnf
      obtain rfl := Option.some.inj h; show _ = _; kernel_rfl

    · replace h := ifT h hb4; conv => lhs; whnf
      cases hb5 : ((ByteArray.size a_0 : Int) != (ByteArray.size a_1 : Int))
      · replace h := ifF h ((fun h => not_not_intro (bneF h)) hb5); conv => lhs; whnf
        obtain ⟨hg17, h⟩ := grd_inv h
        rw [hg17]
        conv => lhs; whnf
        conv => lhs; whnf
        try rw [bytesL_of]
        try rw [len_of (l := (bytesL a_0)) (r := rU)]
        obtain ⟨hl_i11, h⟩ := grd_inv h
        refine loop_for hlp (l := (bytesL a_0)) hl_i11 (fun (i11 : Nat) (v12 : List Int) => ([.dead, ST a_1, .dead, .dead, .dead, .dead, .sl 0, .dead, .dead, .dead, .dead, .dead, .dead, .dead, .dead, .dead, .dead, .dead, .dead, .dead, .dead, .dead, .dead, .dead, .dead, .dead, IN ((bytesL a_0).length : Int), IN (i11 : Int)] ++ List.replicate 14 .dead : List V)) (fun (i11 : Nat) (v12 : List Int) => ([some (.arr 5 1 (v12.map rU))] : Fo)) (fun (r : (ByteArray × Int)) => ((.tup [ST r.1, IN r.2] : V), ([] : Fo))) ?_ ?_ (bytesL a_0) _ (fun kk => by kernel_rfl) h
        · clear h
          rintro next_nx13 nx13 i11 hi_i11 hnx13 v12 r h
          try dsimp only at h
          have hn_i11 : i11 < 4611686018427387904 := by omega
          have hx_x14 := get_map rU (bytesL a_0) i11 hi_i11
          generalize (bytesL a_0)[i11] = x14 at h hx_x14
          have hd_i11 : (decide ((i11 : Int) < ((bytesL a_0).length : Int))) = true := decide_eq_true (by omega)
          conv => lhs; whnf
          try rw [hd_i11]
          conv => lhs; whnf
          obtain ⟨x15, hq_x15, hx_x15', h⟩ := getK_inv h
          have hx_x15 := get_of (r := rU) hx_x15'
          try (rw [decide_eq_true hq_x15]; conv => lhs; whnf)
          rw [hx_x15]
          conv => lhs; whnf
          rw [hx_x15]
          conv => lhs; whnf
          obtain ⟨c16', hq_c16, hc_c16, h⟩ := getB_inv h
          try (rw [decide_eq_true hq_c16]; conv => lhs; whnf)
          rw [hc_c16]
          conv => lhs; whnf
          generalize he_c16 : (c16'.toNat : Int) = c16 at h ⊢
          conv => lhs; whnf
          try (rw [decide_eq_true hq_x15]; conv => lhs; whnf)
          rw [hx_x15]
          conv => lhs; whnf
          rw [hx_x15]
          conv => lhs; whnf
          first | (rw [map_set_of (r := rU) (l := v12) (x := (orK .u8 x15 c16)) ?hh]; case hh => exact rfl) | skip
          rw [wrap_nat i11 (by have := hn_i11; omega)]
          exact hnx13 _ _ _ _ (fun kk => by kernel_rfl) h
        · clear h
          rintro next_nx13 v12 r h
          try dsimp only at h
          have hd_i11 : (decide (((bytesL a_0).length : Int) < ((bytesL a_0).length : Int))) = false := decide_eq_false (by omega)
          conv => lhs; whnf
          try rw [hd_i11]
          conv => lhs; whnf
          try rw [byteRows_rU]
          conv => lhs; whnf
          obtain rfl := Option.some.inj h; show _ = _; kernel_rfl

      · replace h := ifT h (bneT hb5); conv => lhs; whnf
        obtain rfl := Option.some.inj h; show _ = _; kernel_rfl


noncomputable def p_impl_may_c1 (a_0 : Int) (a_1 : ByteArray) : Option Bool :=
  getB a_1 (IntKind.i64.wrap (Int.tdiv a_0 8)) fun c1 =>
  grd (0 ≤ (Int.tmod a_0 8)) <|
  some ((andK .u8 (Int.fdiv c1 (2 ^ (min (Int.toNat (Int.tmod a_0 8)) IntKind.u8.bits))) 1) == 0)

set_option maxHeartbeats 4000000 in
theorem L_impl_may_c1 (a_0 : Int) (a_1 : ByteArray) {r : Bool} (h : p_impl_may_c1 a_0 a_1 = some r) : callL E 184 [IN a_0, .bp 0 0] ([some (.box [ST a_1])] : Fo) = some (BO r, ([some (.box [ST a_1])] : Fo)) := by
  unfold p_impl_may_c1 at h
  refine callW (fu := Try.f184) rfl rfl rfl NN ?_
  intro lp cl hlp hcl
  conv => lhs; whnf
  try (rw [quo_run _ _ _ 8 (by decide)]; conv => lhs; whnf)
  conv => lhs; whnf
  obtain ⟨c1', hq_c1, hc_c1, h⟩ := getB_inv h
  try (rw [decide_eq_true hq_c1]; conv => lhs; whnf)
  rw [hc_c1]
  conv => lhs; whnf
  generalize he_c1 : (c1'.toNat : Int) = c1 at h ⊢
  conv => lhs; whnf
  try (rw [rem_run _ _ _ 8 (by decide)]; conv => lhs; whnf)
  conv => lhs; whnf
  obtain ⟨hg2, h⟩ := grd_inv h
  try (rw [shr_run _ _ _ _ _ hg2]; conv => lhs; whnf)
  conv => lhs; whnf
  obtain rfl := Option.some.inj h; show _ = _; kernel_rfl


noncomputable def p_slices_IndexFunc_impl_may_c1 (a_0 : List Int) (a_1 : ByteArray) : Option Int :=
  grd (a_0.length < 4611686018427387904) <|
  forK a_0 (fun (i6 : Nat) x8 (_ : Unit) (nx7 : Unit → Option _) =>
    callK (p_impl_may_c1 x8 a_1) fun y9 =>
    if y9 = true then
      some (i6 : Int)
    else
      nx7 ()) () (fun (_ : Unit) =>
    some (-1))

set_option maxHeartbeats 4000000 in
theorem L_slices_IndexFunc_impl_may_c1 (a_0 : List Int) (a_1 : ByteArray) {r : Int} (h : p_slices_IndexFunc_impl_may_c1 a_0 a_1 = some r) : callL E 209 [.d (.arr (a_0.map rI)), .clo 184 [.bp 0 0]] ([some (.box [ST a_1])] : Fo) = some (IN r, ([some (.box [ST a_1])] : Fo)) := by
  unfold p_slices_IndexFunc_impl_may_c1 at h
  refine callW (fu := Try.f209) rfl rfl rfl NN ?_
  intro lp cl hlp hcl
  conv => lhs; whnf
  try rw [len_of (l := a_0) (r := rI)]
  obtain ⟨hl_i6, h⟩ := grd_inv h
  refine loop_for hlp (l := a_0) hl_i6 (fun (i6 : Nat) (_ : Unit) => ([.d (.arr (a_0.map rI)), .clo 184 [.bp 0 0], .dead, .dead, .dead, .dead, .dead, IN (a_0.length : Int), IN (i6 : Int)] ++ List.replicate 10 .dead : List V)) (fun (i6 : Nat) (_ : Unit) => ([some (.box [ST a_1])] : Fo)) (fun (r : Int) => ((IN r : V), ([some (.box [ST a_1])] : Fo))) ?_ ?_ () _ (fun kk => by kernel_rfl) h
  · clear h
    rintro next_nx7 nx7 i6 hi_i6 hnx7 ⟨⟩ r h
    try dsimp only at h
    have hn_i6 : i6 < 4611686018427387904 := by omega
    have hx_x8 := get_map rI a_0 i6 hi_i6
    generalize a_0[i6] = x8 at h hx_x8
    have hd_i6 : (decide ((i6 : Int) < (a_0.length : Int))) = true := decide_eq_true (by omega)
    conv => lhs; whnf
    try rw [hd_i6]
    conv => lhs; whnf
    try (rw [decide_eq_true hq_x8]; conv => lhs; whnf)
    rw [hx_x8]
    conv => lhs; whnf
    rw [hx_x8]
    conv => lhs; whnf
    obtain ⟨y9, h_y9, h⟩ := callK_inv h
    rw [cl_eq hcl (L_impl_may_c1 x8 a_1 h_y9)]
    rotate_left
    · show _ = _; kernel_rfl
    · show _ = _; kernel_rfl
    conv => lhs; whnf
    cases hb10 : y9
    · replace h := ifF h (booF hb10); conv => lhs; whnf
      rw [wrap_nat i6 (by have := hn_i6; omega)]
      exact hnx7 _ _ _ _ (fun kk => by kernel_rfl) h
    · replace h := ifT h hb10; conv => lhs; whnf
      obtain rfl := Option.some.inj h; show _ = _; kernel_rfl

  · clear h
    rintro next_nx7 ⟨⟩ r h
    try dsimp only at h
    have hd_i6 : (decide ((a_0.length : Int) < (a_0.length : Int))) = false := decide_eq_false (by omega)
    conv => lhs; whnf
    try rw [hd_i6]
    conv => lhs; whnf
    obtain rfl := Option.some.inj h; show _ = _; kernel_rfl


noncomputable def p_slices_ContainsFunc_impl_may_c1 (a_0 : List Int) (a_1 : ByteArray) : Option Bool :=
  callK (p_slices_IndexFunc_impl_may_c1 a_0 a_1) fun y1 =>
  some (decide (y1 ≥ 0))

set_option maxHeartbeats 4000000 in
theorem L_slices_ContainsFunc_impl_may_c1 (a_0 : List Int) (a_1 : ByteArray) {r : Bool} (h : p_slices_ContainsFunc_impl_may_c1 a_0 a_1 = some r) : callL E 121 [.d (.arr (a_0.map rI)), .clo 184 [.bp 0 0]] ([some (.box [ST a_1])] : Fo) = some (BO r, ([some (.box [ST a_1])] : Fo)) := by
  unfold p_slices_ContainsFunc_impl_may_c1 at h
  refine callW (fu := Try.f121) rfl rfl rfl NN ?_
  intro lp cl hlp hcl
  conv => lhs; whnf
  obtain ⟨y1, h_y1, h⟩ := callK_inv h
  rw [cl_eq hcl (L_slices_IndexFunc_impl_may_c1 a_0 a_1 h_y1)]
  rotate_left
  · show _ = _; kernel_rfl
  · show _ = _; kernel_rfl
  conv => lhs; whnf
  obtain rfl := Option.some.inj h; show _ = _; kernel_rfl


noncomputable def p_impl_may (a_0 : ByteArray) (a_1 : ByteArray) : Option Bool :=
  callK (p_impl_probes a_1 (ByteArray.size a_0 : Int)) fun y1 =>
  callK (p_slices_ContainsFunc_impl_may_c1 y1 a_0) fun y2 =>
  some (!y2)

set_option maxHeartbeats 4000000 in
theorem L_impl_may (a_0 : ByteArray) (a_1 : ByteArray) {r : Bool} (h : p_impl_may a_0 a_1 = some r) : callL E 89 [ST a_0, ST a_1] ([] : Fo) = some (BO r, ([] : Fo)) := by
  unfold p_impl_may at h
  refine callW (fu := Try.f89) rfl rfl rfl NN ?_
  intro lp cl hlp hcl
  conv => lhs; whnf
  obtain ⟨y1, h_y1, h⟩ := callK_inv h
  rw [cl_eq hcl (L_impl_probes a_1 (ByteArray.size a_0 : Int) h_y1)]
  rotate_left
  · show _ = _; kernel_rfl
  · show _ = _; kernel_rfl
  conv => lhs; whnf
  obtain ⟨y2, h_y2, h⟩ := callK_inv h
  rw [cl_eq hcl (L_slices_ContainsFunc_impl_may_c1 y1 a_0 h_y2)]
  rotate_left
  · show _ = _; kernel_rfl
  · show _ = _; kernel_rfl
  conv => lhs; whnf
  obtain rfl := Option.some.inj h; show _ = _; kernel_rfl


noncomputable def p_impl_MayContain (a_0 : ByteArray) (a_1 : ByteArray) : Option Bool :=
  callK (p_impl_filterOk a_0) fun y1 =>
  if y1 = true then
    callK (p_impl_ValidKey a_1) fun y3 =>
    if y3 = true then
      callK (p_impl_may a_0 a_1) fun y5 =>
      some y5
    else
      some false
  else
    some false

set_option maxHeartbeats 4000000 in
theorem L_impl_MayContain (a_0 : ByteArray) (a_1 : ByteArray) {r : Bool} (h : p_impl_MayContain a_0 a_1 = some r) : callL E 20 [ST a_0, ST a_1] ([] : Fo) = some (BO r, ([] : Fo)) := by
  unfold p_impl_MayContain at h
  refine callW (fu := Try.f20) rfl rfl rfl NN ?_
  intro lp cl hlp hcl
  conv => lhs; whnf
  obtain ⟨y1, h_y1, h⟩ := callK_inv h
  rw [cl_eq hcl (L_impl_filterOk a_0 h_y1)]
  rotate_left
  · show _ = _; kernel_rfl
  · show _ = _; kernel_rfl
  conv => lhs; whnf
  cases hb2 : y1
  · replace h := ifF h (booF hb2); conv => lhs; whnf
    try (rw [hb2]; conv => lhs; whnf)
    try (rw [hb2]; conv => lhs; whnf)
    obtain rfl := Option.some.inj h; show _ = _; kernel_rfl

  · replace h := ifT h hb2; conv => lhs; whnf
    try (rw [hb2]; conv => lhs; whnf)
    obtain ⟨y3, h_y3, h⟩ := callK_inv h
    rw [cl_eq hcl (L_impl_ValidKey a_1 h_y3)]
    rotate_left
    · show _ = _; kernel_rfl
    · show _ = _; kernel_rfl
    conv => lhs; whnf
    try (rw [hb2]; conv => lhs; whnf)
    cases hb4 : y3
    · replace h := ifF h (booF hb4); conv => lhs; whnf
      try (rw [hb4]; conv => lhs; whnf)
      try (rw [hb4]; conv => lhs; whnf)
      try (rw [hb4]; conv => lhs; whnf)
      obtain rfl := Option.some.inj h; show _ = _; kernel_rfl

    · replace h := ifT h hb4; conv => lhs; whnf
      try (rw [hb4]; conv => lhs; whnf)
      try (rw [hb4]; conv => lhs; whnf)
      obtain ⟨y5, h_y5, h⟩ := callK_inv h
      rw [cl_eq hcl (L_impl_may a_0 a_1 h_y5)]
      rotate_left
      · show _ = _; kernel_rfl
      · show _ = _; kernel_rfl
      conv => lhs; whnf
      try (rw [hb4]; conv => lhs; whnf)
      obtain rfl := Option.some.inj h; show _ = _; kernel_rfl


noncomputable def p_laws_FnBloomNoMiss (a_0 : List Int) : Option Bool :=
  if (a_0.length : Int) > 400 then
    some true
  else
    callK (p_spec_A8Keys a_0) fun y2 =>
    callK (p_laws_a8Mix a_0 5) fun y3 =>
    callK (p_spec_A8Keys y3) fun y4 =>
    callK (p_impl_FilterFor y2) fun y5 =>
    if ¬ y5.2 = 0 then
      some false
    else
      callK (p_impl_NewFilter (ByteArray.size y5.1 : Int)) fun y7 =>
      if ¬ y7.2 = 0 then
        some false
      else
        callK (p_impl_BitsSet y7.1) fun y9 =>
        if ¬ y9 = 0 then
          some false
        else
          grd (y4.length < 4611686018427387904) <|
          forK y4 (fun (i17 : Nat) x20 (v18 : ByteArray) (nx19 : ByteArray → Option _) =>
            callK (p_impl_AddToFilter v18 x20) fun y21 =>
            if ¬ y21.2 = 0 then
              some false
            else
              nx19 y21.1) y7.1 (fun (v18 : ByteArray) =>
            callK (p_impl_MergeFilters y5.1 v18) fun y23 =>
            if ¬ y23.2 = 0 then
              some false
            else
              callK (p_impl_BitsSet y23.1) fun y25 =>
              callK (p_impl_BitsSet y5.1) fun y26 =>
              callK (p_impl_BitsSet v18) fun y27 =>
              if y25 > (IntKind.i64.wrap (y26 + y27)) then
                some false
              else
                grd (y2.length < 4611686018427387904) <|
                forK y2 (fun (i36 : Nat) x38 (_ : Unit) (nx37 : Unit → Option _) =>
                  callK (p_impl_MayContain y5.1 x38) fun y39 =>
                  if y39 = true then
                    callK (p_impl_MayContain y23.1 x38) fun y41 =>
                    if y41 = true then
                      nx37 ()
                    else
                      some false
                  else
                    some false) () (fun (_ : Unit) =>
                  grd (y4.length < 4611686018427387904) <|
                  forK y4 (fun (i50 : Nat) x52 (_ : Unit) (nx51 : Unit → Option _) =>
                    callK (p_impl_MayContain v18 x52) fun y53 =>
                    if y53 = true then
                      callK (p_impl_MayContain y23.1 x52) fun y55 =>
                      if y55 = true then
                        nx51 ()
                      else
                        some false
                    else
                      some false) () (fun (_ : Unit) =>
                    callK (p_impl_BitsSet y5.1) fun y57 =>
                    some (decide (y57 ≤ (IntKind.i64.wrap (4 * (y2.length : Int))))))))

set_option maxHeartbeats 4000000 in
theorem L_laws_FnBloomNoMiss (a_0 : List Int) {r : Bool} (h : p_laws_FnBloomNoMiss a_0 = some r) : callL E 3 [.d (.arr (a_0.map rU))] ([] : Fo) = some (BO r, ([] : Fo)) := by
  unfold p_laws_FnBloomNoMiss at h
  refine callW (fu := Try.f3) rfl rfl rfl NN ?_
  intro lp cl hlp hcl
  conv => lhs; whnf
  try rw [len_of (l := a_0) (r := rU)]
  cases hb1 : (decide ((a_0.length : Int) > 400))
  · replace h := ifF h (decF hb1); conv => lhs; whnf
    obtain ⟨y2, h_y2, h⟩ := callK_inv h
    rw [cl_eq hcl (L_spec_A8Keys a_0 h_y2)]
    rotate_left
    · show _ = _; kernel_rfl
    · show _ = _; kernel_rfl
    conv => lhs; whnf
    obtain ⟨y3, h_y3, h⟩ := callK_inv h
    rw [cl_eq hcl (L_laws_a8Mix a_0 5 h_y3)]
    rotate_left
    · show _ = _; kernel_rfl
    · show _ = _; kernel_rfl
    conv => lhs; whnf
    obtain ⟨y4, h_y4, h⟩ := callK_inv h
    rw [cl_eq hcl (L_spec_A8Keys y3 h_y4)]
    rotate_left
    · show _ = _; kernel_rfl
    · show _ = _; kernel_rfl
    conv => lhs; whnf
    obtain ⟨y5, h_y5, h⟩ := callK_inv h
    rw [cl_eq hcl (L_impl_FilterFor y2 h_y5)]
    rotate_left
    · show _ = _; kernel_rfl
    · show _ = _; kernel_rfl
    conv => lhs; whnf
    cases hb6 : (y5.2 != 0)
    · replace h := ifF h ((fun h => not_not_intro (bneF h)) hb6); conv => lhs; whnf
      obtain ⟨y7, h_y7, h⟩ := callK_inv h
      rw [cl_eq hcl (L_impl_NewFilter (ByteArray.size y5.1 : Int) h_y7)]
      rotate_left
      · show _ = _; kernel_rfl
      · show _ = _; kernel_rfl
      conv => lhs; whnf
      cases hb8 : (y7.2 != 0)
      · replace h := ifF h ((fun h => not_not_intro (bneF h)) hb8); conv => lhs; whnf
        try (rw [hb8]; conv => lhs; whnf)
        obtain ⟨y9, h_y9, h⟩ := callK_inv h
        rw [cl_eq hcl (L_impl_BitsSet y7.1 h_y9)]
        rotate_left
        · show _ = _; kernel_rfl
        · show _ = _; kernel_rfl
        conv => lhs; whnf
        try (rw [hb8]; conv => lhs; whnf)
        try (rw [hb8]; conv => lhs; whnf)
        cases hb10 : (y9 != 0)
        · replace h := ifF h ((fun h => not_not_intro (bneF h)) hb10); conv => lhs; whnf
          obtain ⟨hl_i17, h⟩ := grd_inv h
          refine loop_for hlp (l := y4) hl_i17 (fun (i17 : Nat) (v18 : ByteArray) => ([.dead, .dead, .dead, .d (.arr (y2.map rS)), .d (.arr (y4.map rS)), ST y5.1, .dead, ST v18, .dead, IN (i17 : Int)] ++ List.replicate 120 .dead : List V)) (fun (i17 : Nat) (v18 : ByteArray) => ([] : Fo)) (fun (r : Bool) => ((BO r : V), ([] : Fo))) ?_ ?_ y7.1 _ (fun kk => by kernel_rfl) h
          · clear h
            rintro next_nx19 nx19 i17 hi_i17 hnx19 v18 r h
            try dsimp only at h
            have hn_i17 : i17 < 4611686018427387904 := by omega
            have hx_x20 := get_map rS y4 i17 hi_i17
            generalize y4[i17] = x20 at h hx_x20
            have hd_i17 : (decide ((i17 : Int) < (y4.length : Int))) = true := decide_eq_true (by omega)
            conv => lhs; whnf
            try rw [len_of (l := y4) (r := rS)]
            try rw [hd_i17]
            conv => lhs; whnf
            try (rw [decide_eq_true hq_x20]; conv => lhs; whnf)
            rw [hx_x20]
            conv => lhs; whnf
            rw [hx_x20]
            conv => lhs; whnf
            obtain ⟨y21, h_y21, h⟩ := callK_inv h
            rw [cl_eq hcl (L_impl_AddToFilter v18 x20 h_y21)]
            rotate_left
            · show _ = _; kernel_rfl
            · show _ = _; kernel_rfl
            conv => lhs; whnf
            cases hb22 : (y21.2 != 0)
            · replace h := ifF h ((fun h => not_not_intro (bneF h)) hb22); conv => lhs; whnf
              rw [wrap_nat i17 (by have := hn_i17; omega)]
              exact hnx19 _ _ _ _ (fun kk => by kernel_rfl) h
            · replace h := ifT h (bneT hb22); conv => lhs; whnf
              obtain rfl := Option.some.inj h; show _ = _; kernel_rfl

          · clear h
            rintro next_nx19 v18 r h
            try dsimp only at h
            have hd_i17 : (decide ((y4.length : Int) < (y4.length : Int))) = false := decide_eq_false (by omega)
            conv => lhs; whnf
            try rw [len_of (l := y4) (r := rS)]
            try rw [hd_i17]
            conv => lhs; whnf
            obtain ⟨y23, h_y23, h⟩ := callK_inv h
            rw [cl_eq hcl (L_impl_MergeFilters y5.1 v18 h_y23)]
            rotate_left
            · show _ = _; kernel_rfl
            · show _ = _; kernel_rfl
            conv => lhs; whnf
            cases hb24 : (y23.2 != 0)
            · replace h := ifF h ((fun h => not_not_intro (bneF h)) hb24); conv => lhs; whnf
              try (rw [hb24]; conv => lhs; whnf)
              obtain ⟨y25, h_y25, h⟩ := callK_inv h
              rw [cl_eq hcl (L_impl_BitsSet y23.1 h_y25)]
              rotate_left
              · show _ = _; kernel_rfl
              · show _ = _; kernel_rfl
              conv => lhs; whnf
              try (rw [hb24]; conv => lhs; whnf)
              try (rw [hb24]; conv => lhs; whnf)
              obtain ⟨y26, h_y26, h⟩ := callK_inv h
              rw [cl_eq hcl (L_impl_BitsSet y5.1 h_y26)]
              rotate_left
              · show _ = _; kernel_rfl
              · show _ = _; kernel_rfl
              conv => lhs; whnf
              try (rw [hb24]; conv => lhs; whnf)
              try (rw [hb24]; conv => lhs; whnf)
              obtain ⟨y27, h_y27, h⟩ := callK_inv h
              rw [cl_eq hcl (L_impl_BitsSet v18 h_y27)]
              rotate_left
              · show _ = _; kernel_rfl
              · show _ = _; kernel_rfl
              conv => lhs; whnf
              try (rw [hb24]; conv => lhs; whnf)
              try (rw [hb24]; conv => lhs; whnf)
              try (rw [hb24]; conv => lhs; whnf)
              cases hb28 : (decide (y25 > (IntKind.i64.wrap (y26 + y27))))
              · replace h := ifF h (decF hb28); conv => lhs; whnf
                obtain ⟨hl_i36, h⟩ := grd_inv h
                refine loop_for hlp (l := y2) hl_i36 (fun (i36 : Nat) (_ : Unit) => ([.dead, .dead, .dead, .d (.arr (y2.map rS)), .d (.arr (y4.map rS)), ST y5.1, .dead, ST v18, .dead, .dead, .dead, .dead, ST y23.1, .dead, IN (i36 : Int)] ++ List.replicate 115 .dead : List V)) (fun (i36 : Nat) (_ : Unit) => ([] : Fo)) (fun (r : Bool) => ((BO r : V), ([] : Fo))) ?_ ?_ () _ (fun kk => by kernel_rfl) h
                · clear h
                  rintro next_nx37 nx37 i36 hi_i36 hnx37 ⟨⟩ r h
                  try dsimp only at h
                  have hn_i36 : i36 < 4611686018427387904 := by omega
                  have hx_x38 := get_map rS y2 i36 hi_i36
                  generalize y2[i36] = x38 at h hx_x38
                  have hd_i36 : (decide ((i36 : Int) < (y2.length : Int))) = true := decide_eq_true (by omega)
                  conv => lhs; whnf
                  try rw [len_of (l := y2) (r := rS)]
                  try rw [hd_i36]
                  conv => lhs; whnf
                  try (rw [decide_eq_true hq_x38]; conv => lhs; whnf)
                  rw [hx_x38]
                  conv => lhs; whnf
                  rw [hx_x38]
                  conv => lhs; whnf
                  obtain ⟨y39, h_y39, h⟩ := callK_inv h
                  rw [cl_eq hcl (L_impl_MayContain y5.1 x38 h_y39)]
                  rotate_left
                  · show _ = _; kernel_rfl
                  · show _ = _; kernel_rfl
                  conv => lhs; whnf
                  cases hb40 : y39
                  · replace h := ifF h (booF hb40); conv => lhs; whnf
                    try (rw [hb40]; conv => lhs; whnf)
                    try (rw [hb40]; conv => lhs; whnf)
                    try (rw [hb40]; conv => lhs; whnf)
                    try (rw [hb40]; conv => lhs; whnf)
                    try (rw [hb40]; conv => lhs; whnf)
                    try (rw [hb40]; conv => lhs; whnf)
                    try (rw [hb40]; conv => lhs; whnf)
                    obtain rfl := Option.some.inj h; show _ = _; kernel_rfl

                  · replace h := ifT h hb40; conv => lhs; whnf
                    try (rw [hb40]; conv => lhs; whnf)
                    try (rw [hb40]; conv => lhs; whnf)
                    try (rw [hb40]; conv => lhs; whnf)
                    try (rw [decide_eq_true hq_x38]; conv => lhs; whnf)
                    rw [hx_x38]
                    conv => lhs; whnf
                    try (rw [hb40]; conv => lhs; whnf)
                    rw [hx_x38]
                    conv => lhs; whnf
                    try (rw [hb40]; conv => lhs; whnf)
                    obtain ⟨y41, h_y41, h⟩ := callK_inv h
                    rw [cl_eq hcl (L_impl_MayContain y23.1 x38 h_y41)]
                    rotate_left
                    · show _ = _; kernel_rfl
                    · show _ = _; kernel_rfl
                    conv => lhs; whnf
                    try (rw [hb40]; conv => lhs; whnf)
                    try (rw [hb40]; conv => lhs; whnf)
                    cases hb42 : y41
                    · replace h := ifF h (booF hb42); conv => lhs; whnf
                      obtain rfl := Option.some.inj h; show _ = _; kernel_rfl

                    · replace h := ifT h hb42; conv => lhs; whnf
                      rw [wrap_nat i36 (by have := hn_i36; omega)]
                      exact hnx37 _ _ _ _ (fun kk => by kernel_rfl) h
                · clear h
                  rintro next_nx37 ⟨⟩ r h
                  try dsimp only at h
                  have hd_i36 : (decide ((y2.length : Int) < (y2.length : Int))) = false := decide_eq_false (by omega)
                  conv => lhs; whnf
                  try rw [len_of (l := y2) (r := rS)]
                  try rw [hd_i36]
                  conv => lhs; whnf
                  obtain ⟨hl_i50, h⟩ := grd_inv h
                  refine loop_for hlp (l := y4) hl_i50 (fun (i50 : Nat) (_ : Unit) => ([.dead, .dead, .dead, .d (.arr (y2.map rS)), .d (.arr (y4.map rS)), ST y5.1, .dead, ST v18, .dead, .dead, .dead, .dead, ST y23.1, .dead, .dead, IN (i50 : Int)] ++ List.replicate 114 .dead : List V)) (fun (i50 : Nat) (_ : Unit) => ([] : Fo)) (fun (r : Bool) => ((BO r : V), ([] : Fo))) ?_ ?_ () _ (fun kk => by kernel_rfl) h
                  · clear h
                    rintro next_nx51 nx51 i50 hi_i50 hnx51 ⟨⟩ r h
                    try dsimp only at h
                    have hn_i50 : i50 < 4611686018427387904 := by omega
                    have hx_x52 := get_map rS y4 i50 hi_i50
                    generalize y4[i50] = x52 at h hx_x52
                    have hd_i50 : (decide ((i50 : Int) < (y4.length : Int))) = true := decide_eq_true (by omega)
                    conv => lhs; whnf
                    try rw [len_of (l := y4) (r := rS)]
                    try rw [hd_i50]
                    conv => lhs; whnf
                    try (rw [decide_eq_true hq_x52]; conv => lhs; whnf)
                    rw [hx_x52]
                    conv => lhs; whnf
                    rw [hx_x52]
                    conv => lhs; whnf
                    obtain ⟨y53, h_y53, h⟩ := callK_inv h
                    rw [cl_eq hcl (L_impl_MayContain v18 x52 h_y53)]
                    rotate_left
                    · show _ = _; kernel_rfl
                    · show _ = _; kernel_rfl
                    conv => lhs; whnf
                    cases hb54 : y53
                    · replace h := ifF h (booF hb54); conv => lhs; whnf
                      try (rw [hb54]; conv => lhs; whnf)
                      try (rw [hb54]; conv => lhs; whnf)
                      try (rw [hb54]; conv => lhs; whnf)
                      try (rw [hb54]; conv => lhs; whnf)
                      try (rw [hb54]; conv => lhs; whnf)
                      try (rw [hb54]; conv => lhs; whnf)
                      try (rw [hb54]; conv => lhs; whnf)
                      obtain rfl := Option.some.inj h; show _ = _; kernel_rfl

                    · replace h := ifT h hb54; conv => lhs; whnf
                      try (rw [hb54]; conv => lhs; whnf)
                      try (rw [hb54]; conv => lhs; whnf)
                      try (rw [hb54]; conv => lhs; whnf)
                      try (rw [decide_eq_true hq_x52]; conv => lhs; whnf)
                      rw [hx_x52]
                      conv => lhs; whnf
                      try (rw [hb54]; conv => lhs; whnf)
                      rw [hx_x52]
                      conv => lhs; whnf
                      try (rw [hb54]; conv => lhs; whnf)
                      obtain ⟨y55, h_y55, h⟩ := callK_inv h
                      rw [cl_eq hcl (L_impl_MayContain y23.1 x52 h_y55)]
                      rotate_left
                      · show _ = _; kernel_rfl
                      · show _ = _; kernel_rfl
                      conv => lhs; whnf
                      try (rw [hb54]; conv => lhs; whnf)
                      try (rw [hb54]; conv => lhs; whnf)
                      cases hb56 : y55
                      · replace h := ifF h (booF hb56); conv => lhs; whnf
                        obtain rfl := Option.some.inj h; show _ = _; kernel_rfl

                      · replace h := ifT h hb56; conv => lhs; whnf
                        rw [wrap_nat i50 (by have := hn_i50; omega)]
                        exact hnx51 _ _ _ _ (fun kk => by kernel_rfl) h
                  · clear h
                    rintro next_nx51 ⟨⟩ r h
                    try dsimp only at h
                    have hd_i50 : (decide ((y4.length : Int) < (y4.length : Int))) = false := decide_eq_false (by omega)
                    conv => lhs; whnf
                    try rw [len_of (l := y4) (r := rS)]
                    try rw [hd_i50]
                    conv => lhs; whnf
                    obtain ⟨y57, h_y57, h⟩ := callK_inv h
                    rw [cl_eq hcl (L_impl_BitsSet y5.1 h_y57)]
                    rotate_left
                    · show _ = _; kernel_rfl
                    · show _ = _; kernel_rfl
                    conv => lhs; whnf
                    try rw [len_of (l := y2) (r := rS)]
                    obtain rfl := Option.some.inj h; show _ = _; kernel_rfl

              · replace h := ifT h (decT hb28); conv => lhs; whnf
                obtain rfl := Option.some.inj h; show _ = _; kernel_rfl

            · replace h := ifT h (bneT hb24); conv => lhs; whnf
              try (rw [hb24]; conv => lhs; whnf)
              try (rw [hb24]; conv => lhs; whnf)
              try (rw [hb24]; conv => lhs; whnf)
              try (rw [hb24]; conv => lhs; whnf)
              try (rw [hb24]; conv => lhs; whnf)
              try (rw [hb24]; conv => lhs; whnf)
              try (rw [hb24]; conv => lhs; whnf)
              try (rw [hb24]; conv => lhs; whnf)
              obtain rfl := Option.some.inj h; show _ = _; kernel_rfl

        · replace h := ifT h (bneT hb10); conv => lhs; whnf
          obtain rfl := Option.some.inj h; show _ = _; kernel_rfl

      · replace h := ifT h (bneT hb8); conv => lhs; whnf
        try (rw [hb8]; conv => lhs; whnf)
        try (rw [hb8]; conv => lhs; whnf)
        try (rw [hb8]; conv => lhs; whnf)
        obtain rfl := Option.some.inj h; show _ = _; kernel_rfl

    · replace h := ifT h (bneT hb6); conv => lhs; whnf
      obtain rfl := Option.some.inj h; show _ = _; kernel_rfl

  · replace h := ifT h (decT hb1); conv => lhs; whnf
    obtain rfl := Option.some.inj h; show _ = _; kernel_rfl

theorem a8At_ok (code : List Int) (i n : Int) (h : code.length ≤ 1048576) : ∃ r, p_laws_a8At code i n = some r := by
  unfold p_laws_a8At
  by_cases hn : n ≤ 1
  · rw [if_pos hn]; exact ⟨_, rfl⟩
  · rw [if_neg hn, grd_pos (by omega)]
    obtain ⟨r, e, _⟩ := forK_ex (l := code) (f := fun (i6 : Nat) x9 (v7 : Int) (nx8 : Int → Option Int) => nx8 (Int.tmod (IntKind.i64.wrap ((IntKind.i64.wrap (v7 * 31)) + (IntKind.i64.wrap x9))) 1000003)) (k := fun (v7 : Int) => grd (n ≠ 0) <| some (Int.tmod v7 n)) (Q := fun _ => True)
      (fun _ _ => True) (fun i hi s _ nx hnx => hnx _ trivial) (fun s _ => by rw [grd_pos (by omega)]; exact ⟨_, rfl, trivial⟩) (IntKind.i64.wrap ((IntKind.i64.wrap (i * 7)) + 3)) trivial
    exact ⟨r, e⟩
theorem u8_in (n : Int) : 0 ≤ IntKind.u8.wrap n ∧ IntKind.u8.wrap n ≤ 255 := by unfold IntKind.wrap; simp [IntKind.signed, IntKind.bits]; omega
theorem mix_ok {code : List Int} (i : Int) (h : ∀ x ∈ code, 0 ≤ x ∧ x ≤ 255) (hl : code.length ≤ 1000000) : ∃ r, p_laws_a8Mix code i = some r ∧ (∀ x ∈ r, 0 ≤ x ∧ x ≤ 255) ∧ r.length = code.length + 2 := by
  unfold p_laws_a8Mix
  obtain ⟨y, e⟩ := a8At_ok code i 256 (by omega)
  rw [e, callK_some, grd_pos (appOk_of _ _ (by omega))]
  refine ⟨_, rfl, fun x hx => ?_, by simp⟩
  simp only [List.cons_append, List.nil_append, List.mem_cons] at hx
  rcases hx with rfl | rfl | hx
  · exact u8_in _
  · exact u8_in _
  · exact h x hx

/-! ### Bits of a byte -/
def tb (x : UInt8) (j : Nat) : Bool := x.toNat.testBit j
def pop (x : UInt8) : Nat := ((List.range 8).map fun j => (tb x j).toNat).sum
theorem tb_or (x y : UInt8) (j : Nat) : tb (x ||| y) j = (tb x j || tb y j) := by
  unfold tb
  rw [UInt8.toNat_or, Nat.testBit_or]
theorem pop_or (x y : UInt8) : pop (x ||| y) ≤ pop x + pop y := by
  unfold pop
  have : ∀ l : List Nat, (l.map fun j => (tb (x ||| y) j).toNat).sum ≤ (l.map fun j => (tb x j).toNat).sum + (l.map fun j => (tb y j).toNat).sum := by
    intro l
    induction l with
    | nil => simp
    | cons j l ih =>
      simp only [List.map_cons, List.sum_cons]
      have h : (tb (x ||| y) j).toNat ≤ (tb x j).toNat + (tb y j).toNat := by
        rw [tb_or]; cases tb x j <;> cases tb y j <;> decide
      omega
  exact this _
def mk (j : Nat) : UInt8 := UInt8.ofNat (2 ^ j)
theorem mk_at (j : Nat) (h : j < 8) : tb (mk j) j = true ∧ pop (mk j) = 1 ∧ IntKind.u8.wrap (1 * 2 ^ (min (Int.toNat (j : Int)) IntKind.u8.bits)) = ((mk j).toNat : Int) := by
  have : ∀ j : Fin 8, tb (mk j.val) j.val = true ∧ pop (mk j.val) = 1 ∧ IntKind.u8.wrap (1 * 2 ^ (min (Int.toNat (j.val : Int)) IntKind.u8.bits)) = ((mk j.val).toNat : Int) := by decide +kernel
  exact this ⟨j, h⟩
theorem or_u8 (a b : UInt8) : orK .u8 (a.toNat : Int) (b.toNat : Int) = ((a ||| b).toNat : Int) := by
  have e : orK .u8 (a.toNat : Int) (b.toNat : Int) = IntKind.u8.wrap ((a ||| b).toNat : Int) := by
    have h8 : ∀ a : UInt8, BitVec.ofInt IntKind.u8.bits (a.toNat : Int) = a.toBitVec := fun a => by
      apply BitVec.eq_of_toNat_eq
      show (BitVec.ofInt 8 (a.toNat : Int)).toNat = a.toNat
      rw [BitVec.toNat_ofInt]
      have := a.toNat_lt
      omega
    unfold orK
    rw [h8, h8]
    rfl
  rw [e]
  have h := (a ||| b).toNat_lt
  have : IntKind.u8.wrap ((a ||| b).toNat : Int) = ((a ||| b).toNat : Int) % 256 := rfl
  omega
theorem may_at (x : UInt8) (j : Nat) (h : j < 8) : (andK .u8 (Int.fdiv (x.toNat : Int) (2 ^ (min (Int.toNat (j : Int)) IntKind.u8.bits))) 1 == 0) = !tb x j := by
  have : ∀ (x : Fin 256) (j : Fin 8), (andK .u8 (Int.fdiv (x.val : Int) (2 ^ (min (Int.toNat (j.val : Int)) IntKind.u8.bits))) 1 == 0) = !(x.val.testBit j.val) := by decide +kernel
  exact this ⟨x.toNat, x.toNat_lt⟩ ⟨j, h⟩
theorem ones8 (x : UInt8) : p_math_bits_OnesCount8 (x.toNat : Int) = some (pop x : Int) := by
  have : ∀ x : Fin 256, p_math_bits_OnesCount8 (x.val : Int) = some (pop (UInt8.ofNat x.val) : Int) := by
    unfold p_math_bits_OnesCount8
    decide +kernel
  have h := this ⟨x.toNat, x.toNat_lt⟩
  dsimp only at h
  rw [h, UInt8.ofNat_toNat]
/-! ### Filters as rows of bytes -/
def cI (u : List UInt8) : List Int := u.map fun b => (b.toNat : Int)
theorem bytesL_cI (u : List UInt8) : bytesL (ofL u) = cI u := rfl
theorem cI_len (u : List UInt8) : (cI u).length = u.length := List.length_map ..
theorem cI_get (u : List UInt8) (i : Nat) (h : i < u.length) : (cI u)[i]'(by rw [cI_len]; exact h) = (u[i].toNat : Int) := by unfold cI; simp
theorem cI_set (u : List UInt8) (i : Nat) (x : UInt8) : (cI u).set i (x.toNat : Int) = cI (u.set i x) := by unfold cI; rw [List.map_set]
theorem bytesOf_cI (u : List UInt8) : bytesOf ((cI u).map rU) = ofL u := by
  rw [bytesOf_rU]
  unfold cI
  rw [List.map_map]
  congr 1
  conv => rhs; rw [← List.map_id u]
  exact List.map_congr_left fun b _ => by simp
def ones (u : List UInt8) : Nat := (u.map pop).sum
def has (u : List UInt8) (b : Nat) : Bool := match u[b / 8]? with
  | some x => tb x (b % 8)
  | none => false
theorem ones_set : ∀ (u : List UInt8) (i : Nat) (x : UInt8) (h : i < u.length), ones (u.set i x) + pop u[i] = ones u + pop x
  | y :: u, 0, x, _ => by simp [ones]; omega
  | y :: u, i + 1, x, h => by
    have := ones_set u i x (by simpa using h)
    simp only [ones, List.set_cons_succ, List.map_cons, List.sum_cons, List.getElem_cons_succ] at this ⊢
    omega
/-- A bit is set. -/
theorem set_ok (u : List UInt8) (b : Nat) (h : b < 8 * u.length) : ∃ v, u.set (b / 8) ((u[b / 8]'(by omega)) ||| mk (b % 8)) = v ∧ v.length = u.length ∧ ones v ≤ ones u + 1 ∧ has v b = true ∧ ∀ c, has u c = true → has v c = true := by
  have hi : b / 8 < u.length := by omega
  obtain ⟨m1, m2, _⟩ := mk_at (b % 8) (Nat.mod_lt _ (by omega))
  refine ⟨_, rfl, by simp, ?_, ?_, fun c hc => ?_⟩
  · have h1 := ones_set u (b / 8) (u[b / 8] ||| mk (b % 8)) hi
    have h2 := pop_or u[b / 8] (mk (b % 8))
    omega
  · unfold has
    rw [List.getElem?_set_self hi]
    dsimp only
    rw [tb_or, m1, Bool.or_true]
  · unfold has at hc ⊢
    by_cases e : b / 8 = c / 8
    · rw [← e] at hc ⊢
      rw [List.getElem?_set_self hi]
      rw [List.getElem?_eq_getElem hi] at hc
      dsimp only at hc ⊢
      rw [tb_or, hc, Bool.true_or]
    · rw [List.getElem?_set_ne e]; exact hc
/-! ### The hash and the probes -/
theorem u32_in (n : Int) : 0 ≤ IntKind.u32.wrap n ∧ IntKind.u32.wrap n < 4294967296 := by
  have : IntKind.u32.wrap n = n % 4294967296 := rfl
  omega
theorem xor32_in (a b : Int) : 0 ≤ xorK .u32 a b ∧ xorK .u32 a b < 4294967296 := u32_in _
theorem pl_hash (k : ByteArray) (seed : Int) (hk : k.size ≤ 1000) : ∃ h, p_impl_KeyHash k seed = some h ∧ 0 ≤ h ∧ h < 4294967296 := by
  unfold p_impl_KeyHash
  rw [grd_pos (by omega)]
  refine forI_ex (fun _ (v : Int) => 0 ≤ v ∧ v < 4294967296) (fun i hi v hv nx hnx => ?_) (fun v hv => ?_) _ (xor32_in _ _)
  · rw [getB_lt (by rw [bl_len]; omega)]
    exact hnx _ (u32_in _)
  · rw [wrap_sm _ (by omega) (by omega)]
    exact ⟨_, rfl, hv⟩
theorem bv_wrap (A : Nat) (h : A < 18446744073709551616) : BitVec.ofInt 64 (IntKind.i64.wrap (A : Int)) = BitVec.ofNat 64 A := by
  apply BitVec.eq_of_toNat_eq
  rw [BitVec.toNat_ofInt, BitVec.toNat_ofNat, IntKind.wrap_i64]
  omega
theorem or1 (A : Nat) (h : A < 4294967296) : ∃ B : Nat, orK .i64 (A : Int) 1 = (B : Int) ∧ B < 4294967296 := by
  refine ⟨A ||| 1, ?_, Nat.or_lt_two_pow (n := 32) h (by omega)⟩
  have hw : IntKind.i64.wrap (A : Int) = A := wrap_sm _ (by omega) (by omega)
  have hlt : A ||| 1 < 4294967296 := Nat.or_lt_two_pow (n := 32) h (by omega)
  have h1 := bv_wrap A (by omega)
  rw [hw] at h1
  show IntKind.i64.wrap (((BitVec.ofInt 64 (A : Int) ||| BitVec.ofInt 64 1).toNat : Nat) : Int) = _
  rw [h1, show BitVec.ofInt 64 1 = BitVec.ofNat 64 1 from rfl, BitVec.toNat_or, BitVec.toNat_ofNat, BitVec.toNat_ofNat, Nat.mod_eq_of_lt (by omega), Nat.mod_eq_of_lt (by omega)]
  exact wrap_sm _ (by omega) (by omega)
theorem pl_probes (k : ByteArray) (n : Nat) (hk : k.size ≤ 1000) (hn : 1 ≤ n ∧ n ≤ 80) : ∃ P : List Nat, p_impl_probes k n = some (P.map fun (b : Nat) => (b : Int)) ∧ P.length = 4 ∧ ∀ b ∈ P, b < 8 * n := by
  obtain ⟨h1, e1, a1, a2⟩ := pl_hash k 0 hk
  obtain ⟨h2, e2, b1, b2⟩ := pl_hash k 1 hk
  unfold p_impl_probes
  rw [e1, callK_some, e2, callK_some, grd_pos (by omega)]
  obtain ⟨A, rfl⟩ := Int.eq_ofNat_of_zero_le a1
  obtain ⟨B0, rfl⟩ := Int.eq_ofNat_of_zero_le b1
  obtain ⟨B, hB, hB2⟩ := or1 B0 (by omega)
  have hw8 : IntKind.i64.wrap (8 * (n : Int)) = 8 * (n : Int) := wrap_sm _ (by omega) (by omega)
  simp only [hB, hw8]
  have := forI_ex (n := (4 : Int)) (R := List Int) (Q := fun r => ∃ P : List Nat, r = P.map (fun (b : Nat) => (b : Int)) ∧ P.length = 4 ∧ ∀ b ∈ P, b < 8 * n) (f := fun (i6 : Nat) (v7 : List Int) (nx8 : (List Int) → Option (List Int)) =>
    grd ((8 * (n : Int)) ≠ 0) <|
    grd (appOk (v7.length + 1) 8 = true) <|
    nx8 (v7 ++ ([(Int.tmod (IntKind.i64.wrap ((A : Int) + (IntKind.i64.wrap ((i6 : Int) * (B : Int))))) (8 * (n : Int)))] : List Int))) (k := fun v7 => some v7)
    (fun i v => ∃ P : List Nat, v = P.map (fun (b : Nat) => (b : Int)) ∧ P.length = i ∧ ∀ b ∈ P, b < 8 * n) (fun i hi v hv nx hnx => by
      obtain ⟨P, rfl, p1, p2⟩ := hv
      have hi4 : i < 4 := by omega
      have hm : i * B < 4 * 4294967296 := by
        have := Nat.mul_le_mul_right B (show i ≤ 3 by omega)
        omega
      have hmi : (i : Int) * (B : Int) = ((i * B : Nat) : Int) := by push_cast; rfl
      rw [grd_pos (by omega), grd_pos (appOk_of _ _ (by rw [List.length_map]; omega)), hmi, wrap_sm ((i * B : Nat) : Int) (by omega) (by omega), wrap_sm _ (by omega) (by omega)]
      have ht : Int.tmod ((A : Int) + ((i * B : Nat) : Int)) (8 * (n : Int)) = (((A + i * B) % (8 * n) : Nat) : Int) := by
        rw [Int.tmod_eq_emod_of_nonneg (by omega)]
        push_cast
        rfl
      rw [ht]
      refine hnx _ ⟨P ++ [(A + i * B) % (8 * n)], by simp, by simp [p1], fun b hb => ?_⟩
      rcases List.mem_append.mp hb with hb | hb
      · exact p2 b hb
      · rw [List.mem_singleton] at hb
        subst hb
        exact Nat.mod_lt _ (by omega)) (fun v hv => ⟨v, rfl, hv⟩) [] ⟨[], rfl, rfl, by simp⟩
  obtain ⟨r, e, P, rfl, h3, h4⟩ := this
  exact ⟨P, e, h3, h4⟩
/-- All bits of a key are set. -/
def Hit (u : List UInt8) (k : ByteArray) (n : Nat) : Prop := ∀ P : List Nat, p_impl_probes k n = some (P.map fun (b : Nat) => (b : Int)) → ∀ b ∈ P, has u b = true
theorem cast_inj : ∀ {P Q : List Nat}, P.map (fun (b : Nat) => (b : Int)) = Q.map (fun (b : Nat) => (b : Int)) → P = Q
  | [], [], _ => rfl
  | [], _ :: _, h => by simp at h
  | _ :: _, [], h => by simp at h
  | x :: P, y :: Q, h => by
    simp only [List.map_cons, List.cons.injEq] at h
    rw [cast_inj h.2, Int.ofNat_inj.mp h.1]
theorem hit_of {u : List UInt8} {k : ByteArray} {n : Nat} {P : List Nat} (e : p_impl_probes k n = some (P.map fun (b : Nat) => (b : Int))) (h : ∀ b ∈ P, has u b = true) : Hit u k n := fun Q e2 b hb => by
  have e3 : P = Q := cast_inj (Option.some.inj (e.symm.trans e2))
  subst e3
  exact h b hb
theorem Hit.mono {u v : List UInt8} {k : ByteArray} {n : Nat} (h : Hit u k n) (hm : ∀ c, has u c = true → has v c = true) : Hit v k n := fun P e b hb => hm b (h P e b hb)
/-- Keys are added to a filter. -/
theorem pl_added (u : List UInt8) (keys : List ByteArray) (hu : 1 ≤ u.length ∧ u.length ≤ 80) (hk : ∀ k ∈ keys, k.size ≤ 1000) (hl : keys.length ≤ 1000) : ∃ v, p_impl_added (ofL u) keys = some (ofL v) ∧ v.length = u.length ∧ ones v ≤ ones u + 4 * keys.length ∧ (∀ c, has u c = true → has v c = true) ∧ ∀ k ∈ keys, Hit v k u.length := by
  unfold p_impl_added
  rw [size_ofL, grd_pos (appOk_of _ _ (by omega)), grd_pos (by omega), bytesL_cI]
  have := forK_ex (R := ByteArray) (l := keys) (Q := fun r => ∃ v, r = ofL v ∧ v.length = u.length ∧ ones v ≤ ones u + 4 * keys.length ∧ (∀ c, has u c = true → has v c = true) ∧ ∀ k ∈ keys, Hit v k u.length)
    (f := fun (i16 : Nat) x19 (v17 : List Int) (nx18 : (List Int) → Option ByteArray) =>
    callK (p_impl_probes x19 (u.length : Int)) fun y20 =>
    grd (y20.length < 4611686018427387904) <|
    forK y20 (fun (i26 : Nat) x29 (v27 : List Int) (nx28 : (List Int) → Option _) =>
      getK v27 (IntKind.i64.wrap (Int.tdiv x29 8)) fun x30 =>
      grd (0 ≤ (Int.tmod x29 8)) <|
      nx28 (v27.set (Int.toNat (IntKind.i64.wrap (Int.tdiv x29 8))) (orK .u8 x30 (IntKind.u8.wrap (1 * 2 ^ (min (Int.toNat (Int.tmod x29 8)) IntKind.u8.bits)))))) v17 (fun (v27 : List Int) =>
      nx18 v27)) (k := fun (v17 : List Int) => some (bytesOf (v17.map rU)))
    (fun i v => ∃ w, v = cI w ∧ w.length = u.length ∧ ones w ≤ ones u + 4 * i ∧ (∀ c, has u c = true → has w c = true) ∧ ∀ k ∈ keys.take i, Hit w k u.length) (fun i hi v hv nx hnx => by
      obtain ⟨w, rfl, w1, w2, w3, w4⟩ := hv
      obtain ⟨P, p1, p2, p3⟩ := pl_probes keys[i] u.length (hk _ (List.getElem_mem hi)) hu
      rw [p1, callK_some, grd_pos (by rw [List.length_map]; omega)]
      refine forK_ex (fun j v => ∃ z, v = cI z ∧ z.length = u.length ∧ ones z ≤ ones w + j ∧ (∀ c, has w c = true → has z c = true) ∧ ∀ b ∈ P.take j, has z b = true) (fun j hj v hv nx2 hnx2 => ?_) (fun v hv => ?_) _ ⟨w, rfl, w1, by omega, fun _ h => h, by simp⟩
      · obtain ⟨z, rfl, z1, z2, z3, z4⟩ := hv
        rw [List.length_map] at hj
        obtain ⟨b, hbb⟩ : ∃ b, P[j] = b := ⟨_, rfl⟩
        have hb : b < 8 * z.length := by rw [z1, ← hbb]; exact p3 _ (List.getElem_mem hj)
        rw [List.getElem_map, hbb]
        have hd : Int.tdiv (b : Int) 8 = ((b / 8 : Nat) : Int) := by rw [Int.tdiv_eq_ediv_of_nonneg (by omega)]; rfl
        have hm : Int.tmod (b : Int) 8 = ((b % 8 : Nat) : Int) := by rw [Int.tmod_eq_emod_of_nonneg (by omega)]; rfl
        obtain ⟨_, _, m3⟩ := mk_at (b % 8) (Nat.mod_lt _ (by omega))
        obtain ⟨y, y0, y1, y2, y3, y4⟩ := set_ok z b hb
        rw [hd, hm, wrap_sm ((b / 8 : Nat) : Int) (by omega) (by omega), getK_lt (by rw [cI_len]; omega), grd_pos (by omega), cI_get z (b / 8) (by omega), m3, or_u8, Int.toNat_natCast, cI_set, y0]
        refine hnx2 _ ⟨y, rfl, by omega, by omega, fun c hc => y4 c (z3 c hc), fun c hc => ?_⟩
        rw [List.take_succ_eq_append_getElem hj, hbb] at hc
        rcases List.mem_append.mp hc with hc | hc
        · exact y4 c (z4 c hc)
        · rw [List.mem_singleton] at hc; subst hc; exact y3
      · obtain ⟨z, rfl, z1, z2, z3, z4⟩ := hv
        rw [List.length_map, p2] at z2 z4
        refine hnx _ ⟨z, rfl, z1, by omega, fun c hc => z3 c (w3 c hc), fun k hkm => ?_⟩
        rw [List.take_succ_eq_append_getElem hi] at hkm
        rcases List.mem_append.mp hkm with hkm | hkm
        · exact (w4 k hkm).mono z3
        · rw [List.mem_singleton] at hkm
          subst hkm
          exact hit_of p1 fun b hb => z4 b (by rw [List.take_of_length_le (by omega)]; exact hb)) (fun v hv => by
      obtain ⟨w, rfl, w1, w2, w3, w4⟩ := hv
      rw [List.take_length] at w4
      exact ⟨_, rfl, w, bytesOf_cI w, w1, w2, w3, w4⟩) (cI u) ⟨u, rfl, rfl, by omega, fun _ h => h, by simp⟩
  obtain ⟨r, e, v, rfl, h1⟩ := this
  exact ⟨v, e, h1⟩
/-! ### Counting, merging, looking -/
theorem pop_le (x : UInt8) : pop x ≤ 8 := by
  unfold pop
  have : ∀ l : List Nat, (l.map fun j => (tb x j).toNat).sum ≤ l.length := by
    intro l
    induction l with
    | nil => simp
    | cons j l ih =>
      simp only [List.map_cons, List.sum_cons, List.length_cons]
      have : (tb x j).toNat ≤ 1 := by cases tb x j <;> decide
      omega
  have h := this (List.range 8)
  rwa [List.length_range] at h
theorem ones_le : ∀ u : List UInt8, ones u ≤ 8 * u.length
  | [] => by simp [ones]
  | x :: u => by
    have h1 := ones_le u
    have h2 := pop_le x
    simp only [ones, List.map_cons, List.sum_cons, List.length_cons] at h1 ⊢
    omega
theorem ones_take1 (u : List UInt8) (i : Nat) (h : i < u.length) : ones (u.take (i + 1)) = ones (u.take i) + pop u[i] := by
  unfold ones
  rw [List.take_succ_eq_append_getElem h, List.map_append, List.sum_append]
  simp
theorem pl_fok (u : List UInt8) (hu : 1 ≤ u.length ∧ u.length ≤ 80) : p_impl_filterOk (ofL u) = some true := by
  unfold p_impl_filterOk
  rw [size_ofL, inR_iff.mpr (by omega)]
theorem pl_bits (u : List UInt8) (hu : 1 ≤ u.length ∧ u.length ≤ 80) : p_impl_BitsSet (ofL u) = some (ones u : Int) := by
  unfold p_impl_BitsSet p_impl_CountOnes
  rw [pl_fok u hu, callK_some, if_pos rfl, size_ofL, grd_pos (by omega)]
  have := forI_rule (R := Int) (n := (u.length : Int)) (f := fun (i6 : Nat) (v7 : Int) (nx8 : Int → Option Int) =>
    getB (ofL u) (i6 : Int) fun c9 =>
    callK (p_math_bits_OnesCount8 c9) fun y10 =>
    nx8 (IntKind.i64.wrap (v7 + y10))) (k := fun v7 => some v7) (res := some (ones u : Int)) (fun i v => v = (ones (u.take i) : Int)) (fun i hi v hv nx hnx => by
      subst hv
      have hi' : i < u.length := by omega
      have h1 := ones_le (u.take i)
      have h2 := pop_le u[i]
      rw [List.length_take] at h1
      rw [getB_lt (by rw [bl_ofL]; exact hi'), show (bl (ofL u))[i]'(by rw [bl_ofL]; exact hi') = u[i] from rfl, ones8, callK_some, wrap_sm _ (by omega) (by omega)]
      exact hnx _ (by rw [ones_take1 u i hi']; push_cast; rfl)) (fun v hv => by rw [hv, Int.toNat_natCast, List.take_length]) 0 (by simp [ones])
  rw [this, callK_some]
theorem pl_mayc (u : List UInt8) (b : Nat) (hb : b < 8 * u.length) (hu : u.length ≤ 80) : p_impl_may_c1 (b : Int) (ofL u) = some (!has u b) := by
  have hi : b / 8 < u.length := by omega
  have hd : Int.tdiv (b : Int) 8 = ((b / 8 : Nat) : Int) := by rw [Int.tdiv_eq_ediv_of_nonneg (by omega)]; rfl
  have hm : Int.tmod (b : Int) 8 = ((b % 8 : Nat) : Int) := by rw [Int.tmod_eq_emod_of_nonneg (by omega)]; rfl
  unfold p_impl_may_c1
  rw [hd, hm, wrap_sm ((b / 8 : Nat) : Int) (by omega) (by omega), getB_lt (by rw [bl_ofL]; exact hi), grd_pos (by omega), show (bl (ofL u))[b / 8]'(by rw [bl_ofL]; exact hi) = u[b / 8] from rfl, may_at _ _ (Nat.mod_lt _ (by omega))]
  unfold has
  rw [List.getElem?_eq_getElem hi]
theorem pl_may (u : List UInt8) (k : ByteArray) (hu : 1 ≤ u.length ∧ u.length ≤ 80) (hk : inR (k.size : Int) 1 8 = true) (h : Hit u k u.length) : p_impl_MayContain (ofL u) k = some true := by
  have hks := inR_iff.mp hk
  obtain ⟨P, p1, p2, p3⟩ := pl_probes k u.length (by omega) hu
  have h := h P p1
  unfold p_impl_MayContain p_impl_ValidKey p_impl_may
  rw [pl_fok u hu, callK_some, if_pos rfl, hk, callK_some, if_pos rfl, size_ofL, p1, callK_some]
  have e : p_slices_IndexFunc_impl_may_c1 (P.map fun (b : Nat) => (b : Int)) (ofL u) = some (-1) := by
    unfold p_slices_IndexFunc_impl_may_c1
    rw [grd_pos (by rw [List.length_map]; omega)]
    refine forK_rule (fun _ _ => True) (fun i hi _ _ nx hnx => ?_) (fun _ _ => rfl) () trivial
    rw [List.length_map] at hi
    rw [List.getElem_map, pl_mayc u _ (p3 _ (List.getElem_mem hi)) hu.2, h _ (List.getElem_mem hi), callK_some, if_neg (by decide)]
    exact hnx () trivial
  unfold p_slices_ContainsFunc_impl_may_c1
  rw [e]
  rfl
theorem pl_merge (u v : List UInt8) (hu : 1 ≤ u.length ∧ u.length ≤ 80) (hv : v.length = u.length) : ∃ w, p_impl_MergeFilters (ofL u) (ofL v) = some (ofL w, 0) ∧ w.length = u.length ∧ ones w ≤ ones u + ones v ∧ (∀ c, has u c = true → has w c = true) ∧ ∀ c, has v c = true → has w c = true := by
  refine ⟨List.zipWith (· ||| ·) u v, ?_, by simp [hv], ?_, fun c hc => ?_, fun c hc => ?_⟩
  · unfold p_impl_MergeFilters
    rw [pl_fok u hu, callK_some, if_pos rfl, pl_fok v (by omega), callK_some, if_pos rfl, size_ofL, size_ofL, if_neg (by rw [hv]; simp), grd_pos (appOk_of _ _ (by omega)), bytesL_cI, grd_pos (by rw [cI_len]; omega)]
    refine forK_rule (fun i s => ∃ z, s = cI z ∧ z.length = u.length ∧ z.take i = (List.zipWith (· ||| ·) u v).take i ∧ z.drop i = u.drop i) (fun i hi s hs nx hnx => ?_) (fun s hs => ?_) _ ⟨u, rfl, rfl, by simp, rfl⟩
    · obtain ⟨z, rfl, z1, z2, z3⟩ := hs
      rw [cI_len] at hi
      have hz : z[i]'(by omega) = u[i] := by
        have := congrArg (fun t => t[0]?) z3
        simp [hi, z1] at this
        exact this
      rw [getK_lt (by rw [cI_len]; omega), getB_lt (by rw [bl_ofL]; omega), show (bl (ofL v))[i]'(by rw [bl_ofL]; omega) = v[i]'(by omega) from rfl, cI_get z i (by omega), hz, or_u8, Int.toNat_natCast, cI_set]
      refine hnx _ ⟨_, rfl, by simpa using z1, ?_, ?_⟩
      · rw [List.take_succ_eq_append_getElem (by simp; omega), List.take_set_of_le (by omega), z2, List.take_succ_eq_append_getElem (by simp; omega)]
        simp
      · rw [List.drop_set_of_lt (by omega)]
        have := congrArg (List.drop 1) z3
        simpa [List.drop_drop] using this
    · obtain ⟨z, rfl, z1, z2, z3⟩ := hs
      have hzl : (List.zipWith (· ||| ·) u v).length = u.length := by simp [hv]
      rw [cI_len, List.take_of_length_le (by omega), List.take_of_length_le (by omega)] at z2
      rw [z2, bytesOf_cI]
  · have : ∀ (u v : List UInt8), ones (List.zipWith (· ||| ·) u v) ≤ ones u + ones v := by
      intro u
      induction u with
      | nil => intro v; simp [ones]
      | cons x u ih =>
        intro v
        cases v with
        | nil => simp [ones]
        | cons y v =>
          have h1 := ih v
          have h2 := pop_or x y
          simp only [ones, List.zipWith_cons_cons, List.map_cons, List.sum_cons] at h1 ⊢
          omega
    exact this u v
  · unfold has at hc ⊢
    rw [List.getElem?_zipWith]
    cases hx : u[c / 8]? with
    | none => rw [hx] at hc; simp at hc
    | some x =>
      have hlt := (List.getElem?_eq_some_iff.mp hx).1
      rw [hx] at hc
      rw [List.getElem?_eq_getElem (by omega : c / 8 < v.length)]
      dsimp only at hc ⊢
      rw [tb_or, hc, Bool.true_or]
  · unfold has at hc ⊢
    rw [List.getElem?_zipWith]
    cases hx : v[c / 8]? with
    | none => rw [hx] at hc; simp at hc
    | some x =>
      have hlt := (List.getElem?_eq_some_iff.mp hx).1
      rw [hx] at hc
      rw [List.getElem?_eq_getElem (by omega : c / 8 < u.length)]
      dsimp only at hc ⊢
      rw [tb_or, hc, Bool.or_true]
/-! ### New filters, keys -/
theorem rep0 (n : Nat) : repB (⟨#[0]⟩ : ByteArray) (n : Int) = ofL (List.replicate n 0) := by
  unfold repB ofL
  rw [Int.toNat_natCast, show (⟨#[0]⟩ : ByteArray).data.toList = List.replicate 1 (0 : UInt8) from rfl, Lib.repeatL_replicate, Nat.mul_one]
theorem ones0 : ∀ n : Nat, ones (List.replicate n 0) = 0
  | 0 => rfl
  | n + 1 => by
    have h := ones0 n
    have h0 : pop 0 = 0 := by decide +kernel
    simp only [ones, List.replicate_succ, List.map_cons, List.sum_cons] at h ⊢
    omega
theorem pl_new (n : Nat) (h : 1 ≤ n ∧ n ≤ 80) : p_impl_NewFilter (n : Int) = some (ofL (List.replicate n 0), 0) := by
  unfold p_impl_NewFilter
  rw [if_pos (inR_iff.mpr (by omega)), grd_pos ⟨by omega, by omega, by
    show 1 * Int.toNat (n : Int) ≤ _
    omega⟩, rep0]
theorem pl_for (keys : List ByteArray) (hl : keys.length ≤ 20) (hk : ∀ k ∈ keys, inR (k.size : Int) 1 8 = true) : ∃ u, p_impl_FilterFor keys = some (ofL u, 0) ∧ (1 ≤ u.length ∧ u.length ≤ 80) ∧ ones u ≤ 4 * keys.length ∧ ∀ k ∈ keys, Hit u k u.length := by
  unfold p_impl_FilterFor p_slices_ContainsFunc_impl_FilterFor_c1
  have e : p_slices_IndexFunc_impl_FilterFor_c1 keys = some (-1) := by
    unfold p_slices_IndexFunc_impl_FilterFor_c1
    rw [grd_pos (by omega)]
    refine forK_rule (fun _ _ => True) (fun i hi _ _ nx hnx => ?_) (fun _ _ => rfl) () trivial
    unfold p_impl_FilterFor_c1 p_impl_ValidKey
    rw [hk _ (List.getElem_mem hi), callK_some, callK_some, if_neg (by decide)]
    exact hnx () trivial
  rw [e, callK_some, callK_some, if_neg (by decide), if_neg (by omega)]
  unfold p_impl_filterFor
  obtain ⟨m, hm, hm2⟩ : ∃ m : Nat, (if (IntKind.i64.wrap (Int.tdiv (IntKind.i64.wrap ((IntKind.i64.wrap (10 * (keys.length : Int))) + 7)) 8)) > 1 then (IntKind.i64.wrap (Int.tdiv (IntKind.i64.wrap ((IntKind.i64.wrap (10 * (keys.length : Int))) + 7)) 8)) else 1) = (m : Int) ∧ 1 ≤ m ∧ m ≤ 80 := by
    have hX : IntKind.i64.wrap (Int.tdiv (IntKind.i64.wrap ((IntKind.i64.wrap (10 * (keys.length : Int))) + 7)) 8) = (((10 * keys.length + 7) / 8 : Nat) : Int) := by
      rw [wrap_sm (10 * (keys.length : Int)) (by omega) (by omega), wrap_sm (10 * (keys.length : Int) + 7) (by omega) (by omega), Int.tdiv_eq_ediv_of_nonneg (by omega), wrap_sm ((10 * (keys.length : Int) + 7) / 8) (by omega) (by omega)]
      omega
    rw [hX]
    by_cases h : (((10 * keys.length + 7) / 8 : Nat) : Int) > 1
    · rw [if_pos h]; exact ⟨_, rfl, by omega, by omega⟩
    · rw [if_neg h]; exact ⟨1, rfl, by omega, by omega⟩
  rw [hm, grd_pos ⟨by omega, by omega, by
    show 1 * Int.toNat (m : Int) ≤ _
    omega⟩, rep0]
  obtain ⟨v, e2, v1, v2, _, v4⟩ := pl_added (List.replicate m 0) keys (by rw [List.length_replicate]; omega) (fun k hk2 => by have := inR_iff.mp (hk k hk2); omega) (by omega)
  rw [e2, callK_some, callK_some]
  rw [List.length_replicate] at v1 v4
  rw [ones0] at v2
  exact ⟨v, rfl, by omega, by omega, by rw [v1]; exact v4⟩
theorem text_ok {b : Int} {s : Sl00Src} (l : List ByteArray) (hl : 0 < l.length) (hb : 0 ≤ b) (h : SrcOk (b + 2) s) : ∃ r s', p_spec_l00Src_text l s = some (r, s') ∧ r ∈ l ∧ SrcOk b s' := by
  obtain ⟨r, s1, e1, ⟨b1, b2, b3⟩, o1⟩ := pick_ok (l.length : Int) hb h
  unfold p_spec_l00Src_text
  have hr : r < (l.length : Int) := by
    rcases Nat.lt_or_ge 1 l.length with h | h
    · exact b2 (by omega)
    · have := b3 (by omega); omega
  rw [e1, callK_some, getK_in b1 hr]
  exact ⟨_, _, rfl, List.getElem_mem _, o1⟩
theorem key_ok {b : Int} {s : Sl00Src} (hb : 0 ≤ b) (h : SrcOk (b + 2) s) : ∃ r s', p_spec_l17DrawKey s = some (r, s') ∧ inR (r.size : Int) 1 8 = true ∧ SrcOk b s' := by
  unfold p_spec_l17DrawKey
  obtain ⟨r, s', e, hr, ho⟩ := text_ok ([(⟨#[97]⟩ : ByteArray), (⟨#[98]⟩ : ByteArray), (⟨#[99]⟩ : ByteArray), (⟨#[100]⟩ : ByteArray), (⟨#[101]⟩ : ByteArray), (⟨#[97, 98]⟩ : ByteArray), (⟨#[98, 49]⟩ : ByteArray), (⟨#[107, 101, 121, 56, 98, 121, 116, 101]⟩ : ByteArray), (⟨#[0]⟩ : ByteArray), (⟨#[255, 255]⟩ : ByteArray)] : List ByteArray) (by simp) hb h
  rw [e, callK_some]
  refine ⟨_, _, rfl, ?_, ho⟩
  simp only [List.mem_cons, List.not_mem_nil, or_false] at hr
  rcases hr with rfl | rfl | rfl | rfl | rfl | rfl | rfl | rfl | rfl | rfl <;> rfl
theorem keys_ok {code : List Int} (h : ∀ x ∈ code, 0 ≤ x ∧ x ≤ 255) (hl : code.length ≤ 1048576) : ∃ l, p_spec_A8Keys code = some l ∧ l.length ≤ 9 ∧ ∀ k ∈ l, inR (k.size : Int) 1 8 = true := by
  unfold p_spec_A8Keys p_spec_l21Keys
  obtain ⟨s, e0, o0⟩ := from_ok h hl
  obtain ⟨r, s1, e1, ⟨b1, b2, _⟩, o1⟩ := pick_ok (b := 1000) 9 (by omega) (o0.le (by omega))
  have hr := b2 (by omega)
  rw [e0, callK_some, e1, callK_some]
  dsimp only
  obtain ⟨q, e2, q1, q2⟩ := iterK_ex (R := List ByteArray × Sl00Src) (Q := fun q => q.1.length ≤ 9 ∧ ∀ k ∈ q.1, inR (k.size : Int) 1 8 = true) (f := fun ((v2, v3, v4) : (Int × Sl00Src × (List ByteArray))) (nx5 : (Int × Sl00Src × (List ByteArray)) → Option (List ByteArray × Sl00Src)) =>
    if v2 > 0 then
      callK (p_spec_l17DrawKey v3) fun y7 =>
      grd (appOk (v4.length + 1) 16 = true) <|
      nx5 ((IntKind.i64.wrap (v2 - 1)), y7.2, (v4 ++ ([y7.1] : List ByteArray)))
    else
      some (v4, v3))
    (fun d (t : Int × Sl00Src × List ByteArray) => t.1 = d ∧ d ≤ 9 ∧ SrcOk (2 * d) t.2.1 ∧ t.2.2.length + d ≤ 9 ∧ ∀ k ∈ t.2.2, inR (k.size : Int) 1 8 = true) (fun d t ht nx hnx => by
      obtain ⟨v2, v3, v4⟩ := t
      obtain ⟨g1, g2, g3, g4, g5⟩ := ht
      dsimp only at g1 g3 g4 g5 hnx ⊢
      subst g1
      by_cases hd : (d : Int) > 0
      · obtain ⟨k, s2, e3, k1, o3⟩ := key_ok (b := 2 * ((d - 1 : Nat) : Int)) (by omega) (g3.le (by omega))
        rw [if_pos hd, e3, callK_some, grd_pos (appOk_of _ _ (by omega)), wrap_sm _ (by omega) (by omega)]
        refine hnx (d - 1) _ (by omega) ⟨by dsimp only; omega, by omega, o3, by simp; omega, fun x hx => ?_⟩
        rcases List.mem_append.mp hx with hx | hx
        · exact g5 x hx
        · rw [List.mem_singleton] at hx; subst hx; exact k1
      · rw [if_neg hd]
        exact ⟨_, rfl, by dsimp only; omega, g5⟩) r.toNat (r, s1, []) (by unfold NN; omega) ⟨by dsimp only; omega, by omega, o1.le (by omega), by simp; omega, by simp⟩
  rw [e2, callK_some]
  exact ⟨_, rfl, q1, q2⟩
theorem pl_add (u : List UInt8) (k : ByteArray) (hu : 1 ≤ u.length ∧ u.length ≤ 80) (hk : inR (k.size : Int) 1 8 = true) : ∃ v, p_impl_AddToFilter (ofL u) k = some (ofL v, 0) ∧ v.length = u.length ∧ (∀ c, has u c = true → has v c = true) ∧ Hit v k u.length := by
  unfold p_impl_AddToFilter p_impl_ValidKey
  obtain ⟨v, e, v1, _, v3, v4⟩ := pl_added u [k] hu (fun x hx => by rw [List.mem_singleton] at hx; subst hx; have := inR_iff.mp hk; omega) (by simp)
  rw [pl_fok u hu, callK_some, if_pos rfl, hk, callK_some, if_pos rfl, e, callK_some]
  exact ⟨v, rfl, v1, v3, v4 k (by simp)⟩
theorem pl_law (code : List Int) (hk : okL u8r code) : p_laws_FnBloomNoMiss code = some true := by
  unfold p_laws_FnBloomNoMiss
  by_cases hc : (code.length : Int) > 400
  · rw [if_pos hc]
  rw [if_neg hc]
  obtain ⟨a, e1, a1, a2⟩ := keys_ok hk.2 (by omega)
  obtain ⟨m, e2, m1, m2⟩ := mix_ok 5 hk.2 (by omega)
  obtain ⟨b, e3, b1, b2⟩ := keys_ok m1 (by omega)
  obtain ⟨f, e4, f1, f2, f3⟩ := pl_for a (by omega) a2
  rw [e1, callK_some, e2, callK_some, e3, callK_some, e4, callK_some]
  dsimp only
  rw [if_neg (by simp), size_ofL, pl_new _ f1, callK_some]
  dsimp only
  rw [if_neg (by simp), pl_bits _ (by rw [List.length_replicate]; exact f1), callK_some, ones0, if_neg (by simp), grd_pos (by omega)]
  refine forK_rule (fun i v => ∃ g, v = ofL g ∧ g.length = f.length ∧ ∀ k ∈ b.take i, Hit g k f.length) (fun i hi v hv nx hnx => ?_) (fun v hv => ?_) _ ⟨_, rfl, List.length_replicate, by simp⟩
  · obtain ⟨g, rfl, g1, g2⟩ := hv
    obtain ⟨w, e5, w1, w2, w3⟩ := pl_add g b[i] (by omega) (b2 _ (List.getElem_mem hi))
    rw [e5, callK_some]
    dsimp only
    rw [if_neg (by simp)]
    refine hnx _ ⟨w, rfl, by omega, fun k hk2 => ?_⟩
    rw [List.take_succ_eq_append_getElem hi] at hk2
    rcases List.mem_append.mp hk2 with hk2 | hk2
    · exact (g2 k hk2).mono w2
    · rw [List.mem_singleton] at hk2
      subst hk2
      rw [← g1]; exact w3
  · obtain ⟨g, rfl, g1, g2⟩ := hv
    rw [List.take_length] at g2
    obtain ⟨w, e5, w1, w2, w3, w4⟩ := pl_merge f g f1 g1
    have o1 := ones_le f
    have o2 := ones_le g
    rw [e5, callK_some]
    dsimp only
    rw [if_neg (by simp), pl_bits w (by omega), callK_some, pl_bits f f1, callK_some, pl_bits g (by omega), callK_some, wrap_sm _ (by omega) (by omega), if_neg (by omega), grd_pos (by omega)]
    refine forK_rule (fun _ _ => True) (fun i hi _ _ nx hnx => ?_) (fun _ _ => ?_) () trivial
    · rw [pl_may f _ f1 (a2 _ (List.getElem_mem hi)) (f3 _ (List.getElem_mem hi)), callK_some, if_pos rfl, pl_may w _ (by omega) (a2 _ (List.getElem_mem hi)) (by rw [w1]; exact (f3 _ (List.getElem_mem hi)).mono w3), callK_some, if_pos rfl]
      exact hnx () trivial
    · rw [grd_pos (by omega)]
      refine forK_rule (fun _ _ => True) (fun i hi _ _ nx hnx => ?_) (fun _ _ => ?_) () trivial
      · rw [pl_may g _ (by omega) (b2 _ (List.getElem_mem hi)) (by rw [g1]; exact g2 _ (List.getElem_mem hi)), callK_some, if_pos rfl, pl_may w _ (by omega) (b2 _ (List.getElem_mem hi)) (by rw [w1]; exact (g2 _ (List.getElem_mem hi)).mono w4), callK_some, if_pos rfl]
        exact hnx () trivial
      · rw [callK_some, wrap_sm _ (by omega) (by omega), decide_eq_true (by omega)]
theorem f_law (code : List Int) (hk : okL u8r code) : callL E 3 [.d (.arr (code.map rU))] [] = some (BO true, []) := L_laws_FnBloomNoMiss code (pl_law code hk)

end Go.Proofs.Ytdcgngeepbbikaa.T01

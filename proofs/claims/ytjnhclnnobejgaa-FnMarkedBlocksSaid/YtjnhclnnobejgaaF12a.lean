/- FnMarkedBlocks: what its functions come to, and the row; conditions: none. -/
import Derived.Test.YtjnhclnnobejgaaT12
import Derived.Test.YtjnhclnnobejgaaEz
import Derived.Test.YtjnhclnnobejgaaRows
import Derived.WalkKit
import Derived.ProofKit
import Derived.OpenShut
import Derived.ShutString
import Derived.ChangeOld
import Derived.Below
import Derived.SizedLaws
namespace Go.Proofs.Ytjnhclnnobejgaa.T12
open Go.Proofs.YtjnhclnnobejgaaE
set_option maxRecDepth 100000
set_option linter.unusedVariables false
set_option linter.unusedSimpArgs false

noncomputable def p_spec_l00In (a_0 : Int) (a_1 : Int) (a_2 : Int) : Option Bool :=
  if a_0 ≥ a_1 then
    some (decide (a_0 ≤ a_2))
  else
    some false

set_option maxHeartbeats 4000000 in
theorem L_spec_l00In (a_0 : Int) (a_1 : Int) (a_2 : Int) {r : Bool} (h : p_spec_l00In a_0 a_1 a_2 = some r) : callL E 142 [IN a_0, IN a_1, IN a_2] ([] : Fo) = some (BO r, ([] : Fo)) := by
  unfold p_spec_l00In at h
  refine callW (fu := Try.f142) rfl rfl rfl NN ?_
  intro lp cl hlp hcl
  conv => lhs; whnf
  cases hb1 : (decide (a_0 ≥ a_1))
  · replace h := ifF h (decF hb1); conv => lhs; whnf
    try (rw [hb1]; conv => lhs; whnf)
    try (rw [hb1]; conv => lhs; whnf)
    try (rw [hb1]; conv => lhs; whnf)
    obtain rfl := Option.some.inj h; show _ = _; kernel_rfl

  · replace h := ifT h (decT hb1); conv => lhs; whnf
    try (rw [hb1]; conv => lhs; whnf)
    try (rw [hb1]; conv => lhs; whnf)
    try (rw [hb1]; conv => lhs; whnf)
    obtain rfl := Option.some.inj h; show _ = _; kernel_rfl

theorem pl_l00In (n lo hi : Int) : p_spec_l00In n lo hi = some (inR n lo hi) := by
  unfold p_spec_l00In inR
  split
  · rename_i h; simp [h]
  · rename_i h; simp [h]


noncomputable def p_impl_within (a_0 : Int) (a_1 : Int) (a_2 : Int) : Option Bool :=
  if a_0 ≥ a_1 then
    some (decide (a_0 ≤ a_2))
  else
    some false

set_option maxHeartbeats 4000000 in
theorem L_impl_within (a_0 : Int) (a_1 : Int) (a_2 : Int) {r : Bool} (h : p_impl_within a_0 a_1 a_2 = some r) : callL E 157 [IN a_0, IN a_1, IN a_2] ([] : Fo) = some (BO r, ([] : Fo)) := by
  unfold p_impl_within at h
  refine callW (fu := Try.f157) rfl rfl rfl NN ?_
  intro lp cl hlp hcl
  conv => lhs; whnf
  cases hb1 : (decide (a_0 ≥ a_1))
  · replace h := ifF h (decF hb1); conv => lhs; whnf
    try (rw [hb1]; conv => lhs; whnf)
    try (rw [hb1]; conv => lhs; whnf)
    try (rw [hb1]; conv => lhs; whnf)
    obtain rfl := Option.some.inj h; show _ = _; kernel_rfl

  · replace h := ifT h (decT hb1); conv => lhs; whnf
    try (rw [hb1]; conv => lhs; whnf)
    try (rw [hb1]; conv => lhs; whnf)
    try (rw [hb1]; conv => lhs; whnf)
    obtain rfl := Option.some.inj h; show _ = _; kernel_rfl

theorem pl_within (n lo hi : Int) : p_impl_within n lo hi = some (inR n lo hi) := by
  unfold p_impl_within inR
  split
  · rename_i h; simp [h]
  · rename_i h; simp [h]



structure Sl00Src where
  Code : List Int
  At : Int
  Seed : Int
def rSl00Src (x : Sl00Src) : List D := [.arr (x.Code.map rU), dI x.At, .lit (.int .u64 x.Seed)]
theorem rSl00Src_len : ∀ x, (rSl00Src x).length = 3 := fun _ => rfl

noncomputable def p_spec_l00From (a_0 : List Int) : Option Sl00Src :=
  some (⟨a_0, 0, 0⟩ : Sl00Src)

set_option maxHeartbeats 4000000 in
theorem L_spec_l00From (a_0 : List Int) {r : Sl00Src} (h : p_spec_l00From a_0 = some r) : callL E 129 [.d (.arr (a_0.map rU))] ([] : Fo) = some (.bp 0 0, ([some (.box [.d (.arr (r.Code.map rU)), IN r.At, .d (.lit (.int .u64 r.Seed))])] : Fo)) := by
  unfold p_spec_l00From at h
  refine callW (fu := Try.f129) rfl rfl rfl NN ?_
  intro lp cl hlp hcl
  conv => lhs; whnf
  obtain rfl := Option.some.inj h; show _ = _; kernel_rfl


noncomputable def p_spec_l00Src_next (a_0 : Sl00Src) : Option (Int × Sl00Src) :=
  if a_0.At < (a_0.Code.length : Int) then
    getK a_0.Code a_0.At fun x2 =>
    if (IntKind.i64.wrap (a_0.At + 1)) ≤ (a_0.Code.length : Int) then
      some ((IntKind.i64.wrap x2), (⟨a_0.Code, (IntKind.i64.wrap (a_0.At + 1)), (IntKind.u64.wrap ((IntKind.u64.wrap ((IntKind.u64.wrap (a_0.Seed * 6364136223846793005)) + (IntKind.u64.wrap (IntKind.i64.wrap x2)))) + 1442695040888963407))⟩ : Sl00Src))
    else
      some ((IntKind.i64.wrap (andK .u64 (Int.fdiv (IntKind.u64.wrap ((IntKind.u64.wrap ((IntKind.u64.wrap (a_0.Seed * 6364136223846793005)) + (IntKind.u64.wrap (IntKind.i64.wrap x2)))) + 1442695040888963407)) (2 ^ (min (Int.toNat 40) IntKind.u64.bits))) 255)), (⟨a_0.Code, (IntKind.i64.wrap (a_0.At + 1)), (IntKind.u64.wrap ((IntKind.u64.wrap ((IntKind.u64.wrap (a_0.Seed * 6364136223846793005)) + (IntKind.u64.wrap (IntKind.i64.wrap x2)))) + 1442695040888963407))⟩ : Sl00Src))
  else
    if (IntKind.i64.wrap (a_0.At + 1)) ≤ (a_0.Code.length : Int) then
      some (0, (⟨a_0.Code, (IntKind.i64.wrap (a_0.At + 1)), (IntKind.u64.wrap ((IntKind.u64.wrap ((IntKind.u64.wrap (a_0.Seed * 6364136223846793005)) + (IntKind.u64.wrap 0))) + 1442695040888963407))⟩ : Sl00Src))
    else
      some ((IntKind.i64.wrap (andK .u64 (Int.fdiv (IntKind.u64.wrap ((IntKind.u64.wrap ((IntKind.u64.wrap (a_0.Seed * 6364136223846793005)) + (IntKind.u64.wrap 0))) + 1442695040888963407)) (2 ^ (min (Int.toNat 40) IntKind.u64.bits))) 255)), (⟨a_0.Code, (IntKind.i64.wrap (a_0.At + 1)), (IntKind.u64.wrap ((IntKind.u64.wrap ((IntKind.u64.wrap (a_0.Seed * 6364136223846793005)) + (IntKind.u64.wrap 0))) + 1442695040888963407))⟩ : Sl00Src))

set_option maxHeartbeats 4000000 in
theorem L_spec_l00Src_next (a_0 : Sl00Src) {r : (Int × Sl00Src)} (h : p_spec_l00Src_next a_0 = some r) : callL E 223 [.bp 0 0] ([some (.box [.d (.arr (a_0.Code.map rU)), IN a_0.At, .d (.lit (.int .u64 a_0.Seed))])] : Fo) = some (IN r.1, ([some (.box [.d (.arr (r.2.Code.map rU)), IN r.2.At, .d (.lit (.int .u64 r.2.Seed))])] : Fo)) := by
  unfold p_spec_l00Src_next at h
  refine callW (fu := Try.f223) rfl rfl rfl NN ?_
  intro lp cl hlp hcl
  conv => lhs; whnf
  try rw [len_of (l := a_0.Code) (r := rU)]
  cases hb1 : (decide (a_0.At < (a_0.Code.length : Int)))
  · replace h := ifF h (decF hb1); conv => lhs; whnf
    try rw [len_of (l := a_0.Code) (r := rU)]
    cases hb4 : (decide ((IntKind.i64.wrap (a_0.At + 1)) ≤ (a_0.Code.length : Int)))
    · replace h := ifF h (decF hb4); conv => lhs; whnf
      obtain rfl := Option.some.inj h; show _ = _; kernel_rfl

    · replace h := ifT h (decT hb4); conv => lhs; whnf
      obtain rfl := Option.some.inj h; show _ = _; kernel_rfl

  · replace h := ifT h (decT hb1); conv => lhs; whnf
    obtain ⟨x2, hq_x2, hx_x2', h⟩ := getK_inv h
    have hx_x2 := get_of (r := rU) hx_x2'
    try (rw [decide_eq_true hq_x2]; conv => lhs; whnf)
    rw [hx_x2]
    conv => lhs; whnf
    rw [hx_x2]
    conv => lhs; whnf
    try rw [len_of (l := a_0.Code) (r := rU)]
    cases hb3 : (decide ((IntKind.i64.wrap (a_0.At + 1)) ≤ (a_0.Code.length : Int)))
    · replace h := ifF h (decF hb3); conv => lhs; whnf
      obtain rfl := Option.some.inj h; show _ = _; kernel_rfl

    · replace h := ifT h (decT hb3); conv => lhs; whnf
      obtain rfl := Option.some.inj h; show _ = _; kernel_rfl


noncomputable def p_spec_l00Src_pick (a_0 : Int) (a_1 : Sl00Src) : Option (Int × Sl00Src) :=
  if a_0 ≤ 1 then
    some (0, a_1)
  else
    callK (p_spec_l00Src_next a_1) fun y2 =>
    if a_0 > 200 then
      callK (p_spec_l00Src_next y2.2) fun y4 =>
      grd (a_0 ≠ 0) <|
      some ((Int.tmod (IntKind.i64.wrap ((IntKind.i64.wrap (y2.1 * 256)) + y4.1)) a_0), y4.2)
    else
      grd (a_0 ≠ 0) <|
      some ((Int.tmod y2.1 a_0), y2.2)

set_option maxHeartbeats 4000000 in
theorem L_spec_l00Src_pick (a_0 : Int) (a_1 : Sl00Src) {r : (Int × Sl00Src)} (h : p_spec_l00Src_pick a_0 a_1 = some r) : callL E 137 [.bp 0 0, IN a_0] ([some (.box [.d (.arr (a_1.Code.map rU)), IN a_1.At, .d (.lit (.int .u64 a_1.Seed))])] : Fo) = some (IN r.1, ([some (.box [.d (.arr (r.2.Code.map rU)), IN r.2.At, .d (.lit (.int .u64 r.2.Seed))])] : Fo)) := by
  unfold p_spec_l00Src_pick at h
  refine callW (fu := Try.f137) rfl rfl rfl NN ?_
  intro lp cl hlp hcl
  conv => lhs; whnf
  cases hb1 : (decide (a_0 ≤ 1))
  · replace h := ifF h (decF hb1); conv => lhs; whnf
    obtain ⟨y2, h_y2, h⟩ := callK_inv h
    rw [cl_eq hcl (L_spec_l00Src_next a_1 h_y2)]
    rotate_left
    · show _ = _; kernel_rfl
    · show _ = _; kernel_rfl
    conv => lhs; whnf
    cases hb3 : (decide (a_0 > 200))
    · replace h := ifF h (decF hb3); conv => lhs; whnf
      obtain ⟨hg5, h⟩ := grd_inv h
      rw [rem_run _ _ _ _ hg5]
      conv => lhs; whnf
      obtain rfl := Option.some.inj h; show _ = _; kernel_rfl

    · replace h := ifT h (decT hb3); conv => lhs; whnf
      obtain ⟨y4, h_y4, h⟩ := callK_inv h
      rw [cl_eq hcl (L_spec_l00Src_next y2.2 h_y4)]
      rotate_left
      · show _ = _; kernel_rfl
      · show _ = _; kernel_rfl
      conv => lhs; whnf
      obtain ⟨hg6, h⟩ := grd_inv h
      rw [rem_run _ _ _ _ hg6]
      conv => lhs; whnf
      obtain rfl := Option.some.inj h; show _ = _; kernel_rfl

  · replace h := ifT h (decT hb1); conv => lhs; whnf
    obtain rfl := Option.some.inj h; show _ = _; kernel_rfl

/-- A source of choices from which as many may still be drawn. -/
structure SrcOk (b : Int) (s : Sl00Src) : Prop where
  code : ∀ x ∈ s.Code, 0 ≤ x ∧ x ≤ 255
  len : s.Code.length ≤ 1048576
  lo : 0 ≤ s.At
  hi : s.At + b ≤ 4611686018427387904
theorem SrcOk.le {b c : Int} {s : Sl00Src} (h : SrcOk b s) (hc : c ≤ b) : SrcOk c s := ⟨h.1, h.2, h.3, by have := h.4; omega⟩
theorem nxV_in (sd : Int) : 0 ≤ IntKind.i64.wrap (andK .u64 sd 255) ∧ IntKind.i64.wrap (andK .u64 sd 255) ≤ 255 := by
  unfold andK
  generalize BitVec.ofInt IntKind.u64.bits sd = a
  have h1 : (a &&& BitVec.ofInt IntKind.u64.bits 255).toNat ≤ 255 := by
    rw [BitVec.toNat_and]
    exact Nat.le_trans Nat.and_le_right (by decide)
  generalize (a &&& BitVec.ofInt IntKind.u64.bits 255).toNat = m at h1
  have e1 : IntKind.u64.wrap (m : Int) = m := by unfold IntKind.wrap; simp [IntKind.signed, IntKind.bits]; omega
  rw [e1, wrap_sm _ (by omega) (by omega)]
  omega
theorem next_ok {b : Int} {s : Sl00Src} (hb : 0 ≤ b) (h : SrcOk (b + 1) s) : ∃ v s', p_spec_l00Src_next s = some (v, s') ∧ (0 ≤ v ∧ v ≤ 255) ∧ SrcOk b s' := by
  obtain ⟨h1, h2, h3, h4⟩ := h
  have hw : IntKind.i64.wrap (s.At + 1) = s.At + 1 := wrap_sm _ (by omega) (by omega)
  unfold p_spec_l00Src_next
  rw [hw]
  split
  · rename_i hlt
    rw [getK_in h3 hlt]
    have hb := h1 _ (List.getElem_mem (show s.At.toNat < s.Code.length by omega))
    rw [if_pos (by omega)]
    exact ⟨_, _, rfl, by rw [wrap_sm _ (by omega) (by omega)]; exact hb, h1, h2, by show 0 ≤ s.At + 1; omega, by show s.At + 1 + b ≤ _; omega⟩
  · rename_i hlt
    rw [if_neg (by omega)]
    exact ⟨_, _, rfl, nxV_in _, h1, h2, by show 0 ≤ s.At + 1; omega, by show s.At + 1 + b ≤ _; omega⟩
theorem pick_ok {b : Int} {s : Sl00Src} (m : Int) (hb : 0 ≤ b) (h : SrcOk (b + 2) s) : ∃ r s', p_spec_l00Src_pick m s = some (r, s') ∧ (0 ≤ r ∧ (1 < m → r < m) ∧ (m ≤ 1 → r = 0)) ∧ SrcOk b s' := by
  unfold p_spec_l00Src_pick
  split
  · rename_i hm
    exact ⟨0, s, rfl, ⟨by omega, fun h => by omega, fun _ => rfl⟩, h.le (by omega)⟩
  · rename_i hm
    obtain ⟨v1, s1, e1, b1, o1⟩ := next_ok (b := b + 1) (by omega) (h.le (by omega))
    rw [e1, callK_some]
    split
    · obtain ⟨v2, s2, e2, b2, o2⟩ := next_ok hb o1
      rw [e2, callK_some, grd_pos (by omega)]
      have w1 : IntKind.i64.wrap (v1 * 256) = v1 * 256 := wrap_sm _ (by omega) (by omega)
      have w2 : IntKind.i64.wrap (v1 * 256 + v2) = v1 * 256 + v2 := wrap_sm _ (by omega) (by omega)
      refine ⟨_, _, rfl, ?_, o2⟩
      show 0 ≤ Int.tmod (IntKind.i64.wrap (IntKind.i64.wrap (v1 * 256) + v2)) m ∧ _
      rw [w1, w2]
      exact ⟨Int.tmod_nonneg _ (by omega), fun _ => Int.tmod_lt_of_pos _ (by omega), fun h3 => by omega⟩
    · rw [grd_pos (by omega)]
      exact ⟨_, _, rfl, ⟨Int.tmod_nonneg _ b1.1, fun _ => Int.tmod_lt_of_pos _ (by omega), fun h3 => by omega⟩, o1.le (by omega)⟩
theorem from_ok {code : List Int} (h : ∀ x ∈ code, 0 ≤ x ∧ x ≤ 255) (hl : code.length ≤ 1048576) : ∃ s, p_spec_l00From code = some s ∧ SrcOk 1099511627776 s :=
  ⟨_, rfl, h, hl, by show (0 : Int) ≤ 0; omega, by show (0 : Int) + 1099511627776 ≤ _; omega⟩

noncomputable def p_spec_l00Src_among (a_0 : List Int) (a_1 : Sl00Src) : Option (Int × Sl00Src) :=
  callK (p_spec_l00Src_pick (a_0.length : Int) a_1) fun y1 =>
  getK a_0 y1.1 fun x2 =>
  some (x2, y1.2)

set_option maxHeartbeats 4000000 in
theorem L_spec_l00Src_among (a_0 : List Int) (a_1 : Sl00Src) {r : (Int × Sl00Src)} (h : p_spec_l00Src_among a_0 a_1 = some r) : callL E 145 [.bp 0 0, .d (.arr (a_0.map rI))] ([some (.box [.d (.arr (a_1.Code.map rU)), IN a_1.At, .d (.lit (.int .u64 a_1.Seed))])] : Fo) = some (IN r.1, ([some (.box [.d (.arr (r.2.Code.map rU)), IN r.2.At, .d (.lit (.int .u64 r.2.Seed))])] : Fo)) := by
  unfold p_spec_l00Src_among at h
  refine callW (fu := Try.f145) rfl rfl rfl NN ?_
  intro lp cl hlp hcl
  conv => lhs; whnf
  try rw [len_of (l := a_0) (r := rI)]
  obtain ⟨y1, h_y1, h⟩ := callK_inv h
  rw [cl_eq hcl (L_spec_l00Src_pick (a_0.length : Int) a_1 h_y1)]
  rotate_left
  · show _ = _; kernel_rfl
  · show _ = _; kernel_rfl
  conv => lhs; whnf
  obtain ⟨x2, hq_x2, hx_x2', h⟩ := getK_inv h
  have hx_x2 := get_of (r := rI) hx_x2'
  try (rw [decide_eq_true hq_x2]; conv => lhs; whnf)
  rw [hx_x2]
  conv => lhs; whnf
  rw [hx_x2]
  conv => lhs; whnf
  obtain rfl := Option.some.inj h; show _ = _; kernel_rfl

theorem among_ok {b : Int} {s : Sl00Src} (l : List Int) (hl : 0 < l.length) (hb : 0 ≤ b) (h : SrcOk (b + 2) s) : ∃ r s', p_spec_l00Src_among l s = some (r, s') ∧ r ∈ l ∧ SrcOk b s' := by
  obtain ⟨r, s1, e1, ⟨b1, b2, b3⟩, o1⟩ := pick_ok (l.length : Int) hb h
  unfold p_spec_l00Src_among
  have hr : r < (l.length : Int) := by
    rcases Nat.lt_or_ge 1 l.length with h | h
    · exact b2 (by omega)
    · have := b3 (by omega); omega
  rw [e1, callK_some, getK_in b1 hr]
  exact ⟨_, _, rfl, List.getElem_mem _, o1⟩

noncomputable def p_spec_l00Src_one (a_0 : Int) (a_1 : Sl00Src) : Option (Bool × Sl00Src) :=
  callK (p_spec_l00Src_pick a_0 a_1) fun y1 =>
  some ((y1.1 == 0), y1.2)

set_option maxHeartbeats 4000000 in
theorem L_spec_l00Src_one (a_0 : Int) (a_1 : Sl00Src) {r : (Bool × Sl00Src)} (h : p_spec_l00Src_one a_0 a_1 = some r) : callL E 134 [.bp 0 0, IN a_0] ([some (.box [.d (.arr (a_1.Code.map rU)), IN a_1.At, .d (.lit (.int .u64 a_1.Seed))])] : Fo) = some (BO r.1, ([some (.box [.d (.arr (r.2.Code.map rU)), IN r.2.At, .d (.lit (.int .u64 r.2.Seed))])] : Fo)) := by
  unfold p_spec_l00Src_one at h
  refine callW (fu := Try.f134) rfl rfl rfl NN ?_
  intro lp cl hlp hcl
  conv => lhs; whnf
  obtain ⟨y1, h_y1, h⟩ := callK_inv h
  rw [cl_eq hcl (L_spec_l00Src_pick a_0 a_1 h_y1)]
  rotate_left
  · show _ = _; kernel_rfl
  · show _ = _; kernel_rfl
  conv => lhs; whnf
  obtain rfl := Option.some.inj h; show _ = _; kernel_rfl

theorem one_ok {b : Int} {s : Sl00Src} (m : Int) (hb : 0 ≤ b) (h : SrcOk (b + 2) s) : ∃ r s', p_spec_l00Src_one m s = some (r, s') ∧ SrcOk b s' := by
  obtain ⟨r, s1, e1, _, o1⟩ := pick_ok m hb h
  unfold p_spec_l00Src_one
  rw [e1, callK_some]
  exact ⟨_, _, rfl, o1⟩

noncomputable def p_spec_ValidGeometry (a_0 : Geometry) : Option Bool :=
  if (inR a_0.Dies 2 3) = true then
    if (inR a_0.Blocks 4 12) = true then
      if a_0.Pages = 8 then
        some true
      else
        some (a_0.Pages == 16)
    else
      some false
  else
    some false

set_option maxHeartbeats 4000000 in
theorem L_spec_ValidGeometry (a_0 : Geometry) {r : Bool} (h : p_spec_ValidGeometry a_0 = some r) : callL E 141 [.agg [IN a_0.Dies, IN a_0.Blocks, IN a_0.Pages]] ([] : Fo) = some (BO r, ([] : Fo)) := by
  unfold p_spec_ValidGeometry at h
  refine callW (fu := Try.f141) rfl rfl rfl NN ?_
  intro lp cl hlp hcl
  conv => lhs; whnf
  rw [cl_eq hcl (L_spec_l00In a_0.Dies 2 3 (pl_l00In a_0.Dies 2 3))]
  rotate_left
  · show _ = _; kernel_rfl
  · show _ = _; kernel_rfl
  conv => lhs; whnf
  cases hb1 : (inR a_0.Dies 2 3)
  · replace h := ifF h (booF hb1); conv => lhs; whnf
    try (rw [hb1]; conv => lhs; whnf)
    try (rw [hb1]; conv => lhs; whnf)
    try (rw [hb1]; conv => lhs; whnf)
    obtain rfl := Option.some.inj h; show _ = _; kernel_rfl

  · replace h := ifT h hb1; conv => lhs; whnf
    try (rw [hb1]; conv => lhs; whnf)
    try (rw [hb1]; conv => lhs; whnf)
    rw [cl_eq hcl (L_spec_l00In a_0.Blocks 4 12 (pl_l00In a_0.Blocks 4 12))]
    rotate_left
    · show _ = _; kernel_rfl
    · show _ = _; kernel_rfl
    conv => lhs; whnf
    try (rw [hb1]; conv => lhs; whnf)
    cases hb2 : (inR a_0.Blocks 4 12)
    · replace h := ifF h (booF hb2); conv => lhs; whnf
      try (rw [hb2]; conv => lhs; whnf)
      try (rw [hb2]; conv => lhs; whnf)
      try (rw [hb2]; conv => lhs; whnf)
      try (rw [hb2]; conv => lhs; whnf)
      try (rw [hb2]; conv => lhs; whnf)
      obtain rfl := Option.some.inj h; show _ = _; kernel_rfl

    · replace h := ifT h hb2; conv => lhs; whnf
      try (rw [hb2]; conv => lhs; whnf)
      try (rw [hb2]; conv => lhs; whnf)
      try (rw [hb2]; conv => lhs; whnf)
      cases hb3 : (a_0.Pages == 8)
      · replace h := ifF h (beqF hb3); conv => lhs; whnf
        try (rw [hb3]; conv => lhs; whnf)
        try (rw [hb3]; conv => lhs; whnf)
        try (rw [hb2]; conv => lhs; whnf)
        try (rw [hb3]; conv => lhs; whnf)
        try (rw [hb2]; conv => lhs; whnf)
        obtain rfl := Option.some.inj h; show _ = _; kernel_rfl

      · replace h := ifT h (beqT hb3); conv => lhs; whnf
        try (rw [hb3]; conv => lhs; whnf)
        try (rw [hb3]; conv => lhs; whnf)
        try (rw [hb2]; conv => lhs; whnf)
        try (rw [hb3]; conv => lhs; whnf)
        try (rw [hb2]; conv => lhs; whnf)
        obtain rfl := Option.some.inj h; show _ = _; kernel_rfl


noncomputable def p_spec_l06New (a_0 : Geometry) : Option (Int × Int × Bool × Int × (List Block)) :=
  grd ((IntKind.i64.wrap (a_0.Dies * a_0.Blocks)) < 4611686018427387904) <|
  forI (IntKind.i64.wrap (a_0.Dies * a_0.Blocks)) (fun (i4 : Nat) (v5 : List Block) (nx6 : (List Block) → Option _) =>
    grd (mkOk a_0.Pages a_0.Pages 16 1 = true) <|
    grd (appOk (v5.length + 1) 48 = true) <|
    nx6 (v5 ++ ([(⟨0, 0, false, (List.replicate (Int.toNat a_0.Pages) ((⟨#[]⟩ : ByteArray) : ByteArray))⟩ : Block)] : List Block))) ([] : List Block) (fun (v5 : List Block) =>
    some ((-1), 0, false, 0, v5))

set_option maxHeartbeats 4000000 in
theorem L_spec_l06New (a_0 : Geometry) {r : (Int × Int × Bool × Int × (List Block))} (h : p_spec_l06New a_0 = some r) : callL E 283 [.agg [IN a_0.Dies, IN a_0.Blocks, IN a_0.Pages]] ([] : Fo) = some (.agg [IN a_0.Dies, IN a_0.Blocks, IN a_0.Pages, .nsl 0, IN r.1, IN r.2.1, BO r.2.2.1, IN r.2.2.2.1], ([some (.nst ⟨91, 4, 3, 9, 1⟩ r.2.2.2.2.length (r.2.2.2.2.map rBlock))] : Fo)) := by
  unfold p_spec_l06New at h
  refine callW (fu := Try.f283) rfl rfl rfl NN ?_
  intro lp cl hlp hcl
  conv => lhs; whnf
  obtain ⟨hl_i4, h⟩ := grd_inv h
  refine loop_forI hlp (n := (IntKind.i64.wrap (a_0.Dies * a_0.Blocks))) hl_i4 (fun (i4 : Nat) (v5 : List Block) => ([.dead, .bp 0 0, .bp 1 0, .bp 2 0, IN (i4 : Int)] ++ List.replicate 21 .dead : List V)) (fun (i4 : Nat) (v5 : List Block) => ([some (.box [IN a_0.Dies, IN a_0.Blocks, IN a_0.Pages]), some (.box [IN 0, IN 0, IN 0, .d (.arr (([] : List Block).map rBlock)), IN 0, IN 0, BO false, IN 0]), some (.box [IN a_0.Dies, IN a_0.Blocks, IN a_0.Pages, .nsl 3, IN (-1), IN 0, BO false, IN 0]), some (.nst ⟨91, 4, 3, 9, 1⟩ v5.length (v5.map rBlock))] : Fo)) (fun (r : (Int × Int × Bool × Int × (List Block))) => ((.agg [IN a_0.Dies, IN a_0.Blocks, IN a_0.Pages, .nsl 0, IN r.1, IN r.2.1, BO r.2.2.1, IN r.2.2.2.1] : V), ([some (.nst ⟨91, 4, 3, 9, 1⟩ r.2.2.2.2.length (r.2.2.2.2.map rBlock))] : Fo))) ?_ ?_ ([] : List Block) _ (fun kk => by kernel_rfl) h
  · clear h
    rintro next_nx6 nx6 i4 hi_i4 hnx6 v5 r h
    try dsimp only at h
    have hn_i4 : i4 < 4611686018427387904 := by omega
    have hd_i4 : (decide ((i4 : Int) < (IntKind.i64.wrap (a_0.Dies * a_0.Blocks)))) = true := decide_eq_true (by omega)
    conv => lhs; whnf
    try (first | rw [hd_i4] | (split; (first | (rename_i hx; exact absurd (hd_i4.symm.trans hx) (by decide)) | (rotate_left; rename_i hx; exact absurd (hd_i4.symm.trans hx) (by decide)))))
    conv => lhs; whnf
    obtain ⟨hg7, h⟩ := grd_inv h
    rw [mk_eq hg7 ?h1 ?h2 ?h3 ?h4]
    case h1 => exact rfl
    case h2 => exact rfl
    case h3 => exact rfl
    case h4 => exact rfl
    conv => lhs; whnf
    first | (rw [rep_of (r := rS) (x := ((⟨#[]⟩ : ByteArray) : ByteArray)) ?hh]; case hh => exact rfl) | skip
    conv => lhs; whnf
    try (rw [beq_len (n := v5.length) (l := v5) (by simp only [List.length_set, List.length_append, List.length_cons, List.length_nil, Nat.zero_add])]; conv => lhs; whnf)
    obtain ⟨hg8, h⟩ := grd_inv h
    rw [app_eq hg8 ?h1 ?h2]
    case h1 => first | exact rfl | (rw [List.length_map]; done) | (rw [List.length_map]; rfl)
    case h2 => exact rfl
    conv => lhs; whnf
    first | (rw [map_app_of (r := rBlock) (l := v5) (m := ([(⟨0, 0, false, (List.replicate (Int.toNat a_0.Pages) ((⟨#[]⟩ : ByteArray) : ByteArray))⟩ : Block)] : List Block)) ?hh]; case hh => exact rfl) | skip
    rw [wrap_nat i4 (by have := hn_i4; omega)]
    exact hnx6 _ _ _ _ (fun kk => by (try simp only [List.length_set, List.length_append, List.length_cons, List.length_nil, Nat.zero_add]); kernel_rfl) h
  · clear h
    rintro next_nx6 v5 r h
    try dsimp only at h
    have hd_i4 : (decide (((Int.toNat (IntKind.i64.wrap (a_0.Dies * a_0.Blocks))) : Int) < (IntKind.i64.wrap (a_0.Dies * a_0.Blocks)))) = false := decide_eq_false (by omega)
    conv => lhs; whnf
    try (first | rw [hd_i4] | (split; (first | (rename_i hx; exact absurd (hd_i4.symm.trans hx) (by decide)) | (rotate_left; rename_i hx; exact absurd (hd_i4.symm.trans hx) (by decide)))))
    conv => lhs; whnf
    obtain rfl := Option.some.inj h; show _ = _; kernel_rfl


noncomputable def p_spec_NewFlash (a_0 : Geometry) : Option (Int × Int × Int × Int × Int × Bool × Int × Int × (List Block)) :=
  callK (p_spec_ValidGeometry a_0) fun y1 =>
  if y1 = true then
    callK (p_spec_l06New a_0) fun y3 =>
    some (a_0.Dies, a_0.Blocks, a_0.Pages, y3.1, y3.2.1, y3.2.2.1, y3.2.2.2.1, 0, y3.2.2.2.2)
  else
    some (0, 0, 0, 0, 0, false, 0, 1, ([] : List Block))

set_option maxHeartbeats 4000000 in
theorem L_spec_NewFlash (a_0 : Geometry) {r : (Int × Int × Int × Int × Int × Bool × Int × Int × (List Block))} (h : p_spec_NewFlash a_0 = some r) : callL E 212 [.agg [IN a_0.Dies, IN a_0.Blocks, IN a_0.Pages]] ([] : Fo) = some (.tup [.agg [IN r.1, IN r.2.1, IN r.2.2.1, .nsl 0, IN r.2.2.2.1, IN r.2.2.2.2.1, BO r.2.2.2.2.2.1, IN r.2.2.2.2.2.2.1], IN r.2.2.2.2.2.2.2.1], ([some (.nst ⟨91, 4, 3, 9, 1⟩ r.2.2.2.2.2.2.2.2.length (r.2.2.2.2.2.2.2.2.map rBlock))] : Fo)) := by
  unfold p_spec_NewFlash at h
  refine callW (fu := Try.f212) rfl rfl rfl NN ?_
  intro lp cl hlp hcl
  conv => lhs; whnf
  obtain ⟨y1, h_y1, h⟩ := callK_inv h
  rw [cl_eq hcl (L_spec_ValidGeometry a_0 h_y1)]
  rotate_left
  · show _ = _; kernel_rfl
  · show _ = _; kernel_rfl
  conv => lhs; whnf
  cases hb2 : y1
  · replace h := ifF h (booF hb2); conv => lhs; whnf
    obtain rfl := Option.some.inj h; show _ = _; kernel_rfl

  · replace h := ifT h hb2; conv => lhs; whnf
    obtain ⟨y3, h_y3, h⟩ := callK_inv h
    rw [cl_eq hcl (L_spec_l06New a_0 h_y3)]
    rotate_left
    · show _ = _; kernel_rfl
    · show _ = _; kernel_rfl
    conv => lhs; whnf
    obtain rfl := Option.some.inj h; show _ = _; kernel_rfl


noncomputable def p_spec_l15Text (a_0 : Int) (a_1 : Sl00Src) : Option (ByteArray × Sl00Src) :=
  grd (a_0 < 4611686018427387904) <|
  forI a_0 (fun (i6 : Nat) ((v7, v8) : (Sl00Src × (List Int))) (nx9 : (Sl00Src × (List Int)) → Option _) =>
    callK (p_spec_l00Src_next v7) fun y10 =>
    grd (appOk (v8.length + 1) 1 = true) <|
    nx9 (y10.2, (v8 ++ ([(IntKind.u8.wrap y10.1)] : List Int)))) (a_1, ([] : List Int)) (fun ((v7, v8) : (Sl00Src × (List Int))) =>
    some ((bytesOf (v8.map rU)), v7))

set_option maxHeartbeats 4000000 in
theorem L_spec_l15Text (a_0 : Int) (a_1 : Sl00Src) {r : (ByteArray × Sl00Src)} (h : p_spec_l15Text a_0 a_1 = some r) : callL E 214 [.bp 0 0, IN a_0] ([some (.box [.d (.arr (a_1.Code.map rU)), IN a_1.At, .d (.lit (.int .u64 a_1.Seed))])] : Fo) = some (ST r.1, ([some (.box [.d (.arr (r.2.Code.map rU)), IN r.2.At, .d (.lit (.int .u64 r.2.Seed))])] : Fo)) := by
  unfold p_spec_l15Text at h
  refine callW (fu := Try.f214) rfl rfl rfl NN ?_
  intro lp cl hlp hcl
  conv => lhs; whnf
  obtain ⟨hl_i6, h⟩ := grd_inv h
  refine loop_forI hlp (n := a_0) hl_i6 (fun (i6 : Nat) ((v7, v8) : (Sl00Src × (List Int))) => ([.bp 0 0, IN a_0, .dead, .dead, .dead, .sl 1, IN (i6 : Int)] ++ List.replicate 14 .dead : List V)) (fun (i6 : Nat) ((v7, v8) : (Sl00Src × (List Int))) => ([some (.box [.d (.arr (v7.Code.map rU)), IN v7.At, .d (.lit (.int .u64 v7.Seed))]), some (.arr 5 1 (v8.map rU))] : Fo)) (fun (r : (ByteArray × Sl00Src)) => ((ST r.1 : V), ([some (.box [.d (.arr (r.2.Code.map rU)), IN r.2.At, .d (.lit (.int .u64 r.2.Seed))])] : Fo))) ?_ ?_ (a_1, ([] : List Int)) _ (fun kk => by kernel_rfl) h
  · clear h
    rintro next_nx9 nx9 i6 hi_i6 hnx9 ⟨v7, v8⟩ r h
    try dsimp only at h
    have hn_i6 : i6 < 4611686018427387904 := by omega
    have hd_i6 : (decide ((i6 : Int) < a_0)) = true := decide_eq_true (by omega)
    conv => lhs; whnf
    try (first | rw [hd_i6] | (split; (first | (rename_i hx; exact absurd (hd_i6.symm.trans hx) (by decide)) | (rotate_left; rename_i hx; exact absurd (hd_i6.symm.trans hx) (by decide)))))
    conv => lhs; whnf
    obtain ⟨y10, h_y10, h⟩ := callK_inv h
    rw [cl_eq hcl (L_spec_l00Src_next v7 h_y10)]
    rotate_left
    · show _ = _; kernel_rfl
    · show _ = _; kernel_rfl
    conv => lhs; whnf
    obtain ⟨hg11, h⟩ := grd_inv h
    rw [app_eq hg11 ?h1 ?h2]
    case h1 => first | exact rfl | (simp only [List.length_map, List.length_cons, List.length_nil]; done) | (rw [List.length_map]; rfl)
    case h2 => exact rfl
    conv => lhs; whnf
    first | (rw [map_app_of (r := rU) (l := v8) (m := ([(IntKind.u8.wrap y10.1)] : List Int)) ?hh]; case hh => exact rfl) | skip
    rw [wrap_nat i6 (by have := hn_i6; omega)]
    exact hnx9 _ _ _ _ (fun kk => by kernel_rfl) h
  · clear h
    rintro next_nx9 ⟨v7, v8⟩ r h
    try dsimp only at h
    have hd_i6 : (decide (((Int.toNat a_0) : Int) < a_0)) = false := decide_eq_false (by omega)
    conv => lhs; whnf
    try (first | rw [hd_i6] | (split; (first | (rename_i hx; exact absurd (hd_i6.symm.trans hx) (by decide)) | (rotate_left; rename_i hx; exact absurd (hd_i6.symm.trans hx) (by decide)))))
    conv => lhs; whnf
    try rw [byteRows_rU]
    conv => lhs; whnf
    obtain rfl := Option.some.inj h; show _ = _; kernel_rfl


noncomputable def p_spec_l02Step (a_0 : Int) : Option Int :=
  if (andK .i64 a_0 1) = 1 then
    some (xorK .i64 (Int.fdiv a_0 (2 ^ (min (Int.toNat 1) IntKind.i64.bits))) 46080)
  else
    some (Int.fdiv a_0 (2 ^ (min (Int.toNat 1) IntKind.i64.bits)))

set_option maxHeartbeats 4000000 in
theorem L_spec_l02Step (a_0 : Int) {r : Int} (h : p_spec_l02Step a_0 = some r) : callL E 326 [IN a_0] ([] : Fo) = some (IN r, ([] : Fo)) := by
  unfold p_spec_l02Step at h
  refine callW (fu := Try.f326) rfl rfl rfl NN ?_
  intro lp cl hlp hcl
  conv => lhs; whnf
  cases hb1 : ((andK .i64 a_0 1) == 1)
  · replace h := ifF h (beqF hb1); conv => lhs; whnf
    obtain rfl := Option.some.inj h; show _ = _; kernel_rfl

  · replace h := ifT h (beqT hb1); conv => lhs; whnf
    obtain rfl := Option.some.inj h; show _ = _; kernel_rfl


noncomputable def p_spec_l02Stream (a_0 : Int) (a_1 : Int) : Option ByteArray :=
  grd (a_1 < 4611686018427387904) <|
  forI a_1 (fun (i15 : Nat) ((v16, v17) : (Int × (List Int))) (nx18 : (Int × (List Int)) → Option _) =>
    grd ((8 : Int) < 4611686018427387904) <|
    forI (8 : Int) (fun (i24 : Nat) ((v25, v26) : (Int × Int)) (nx27 : (Int × Int) → Option _) =>
      grd (0 ≤ (IntKind.u64.wrap (i24 : Int))) <|
      callK (p_spec_l02Step v25) fun y28 =>
      nx27 (y28, (orK .i64 v26 (IntKind.i64.wrap ((andK .i64 v25 1) * 2 ^ (min (Int.toNat (IntKind.u64.wrap (i24 : Int))) IntKind.i64.bits)))))) (v16, 0) (fun ((v25, v26) : (Int × Int)) =>
      grd (appOk (v17.length + 1) 1 = true) <|
      nx18 (v25, (v17 ++ ([(IntKind.u8.wrap v26)] : List Int))))) (a_0, ([] : List Int)) (fun ((v16, v17) : (Int × (List Int))) =>
    some (bytesOf (v17.map rU)))

set_option maxHeartbeats 4000000 in
theorem L_spec_l02Stream (a_0 : Int) (a_1 : Int) {r : ByteArray} (h : p_spec_l02Stream a_0 a_1 = some r) : callL E 313 [IN a_0, IN a_1] ([] : Fo) = some (ST r, ([] : Fo)) := by
  unfold p_spec_l02Stream at h
  refine callW (fu := Try.f313) rfl rfl rfl NN ?_
  intro lp cl hlp hcl
  conv => lhs; whnf
  obtain ⟨hl_i15, h⟩ := grd_inv h
  refine loop_forI hlp (n := a_1) hl_i15 (fun (i15 : Nat) ((v16, v17) : (Int × (List Int))) => ([IN v16, IN a_1, .dead, .dead, .dead, .sl 0, IN (i15 : Int)] ++ List.replicate 28 .dead : List V)) (fun (i15 : Nat) ((v16, v17) : (Int × (List Int))) => ([some (.arr 5 1 (v17.map rU))] : Fo)) (fun (r : ByteArray) => ((ST r : V), ([] : Fo))) ?_ ?_ (a_0, ([] : List Int)) _ (fun kk => by kernel_rfl) h
  · clear h
    rintro next_nx18 nx18 i15 hi_i15 hnx18 ⟨v16, v17⟩ r h
    try dsimp only at h
    have hn_i15 : i15 < 4611686018427387904 := by omega
    have hd_i15 : (decide ((i15 : Int) < a_1)) = true := decide_eq_true (by omega)
    conv => lhs; whnf
    try (first | rw [hd_i15] | (split; (first | (rename_i hx; exact absurd (hd_i15.symm.trans hx) (by decide)) | (rotate_left; rename_i hx; exact absurd (hd_i15.symm.trans hx) (by decide)))))
    conv => lhs; whnf
    obtain ⟨hl_i24, h⟩ := grd_inv h
    refine loop_forI hlp (n := (8 : Int)) hl_i24 (fun (i24 : Nat) ((v25, v26) : (Int × Int)) => ([IN v25, IN a_1, .dead, .dead, .dead, .sl 0, IN (i15 : Int), IN v26, IN (i24 : Int)] ++ List.replicate 26 .dead : List V)) (fun (i24 : Nat) ((v25, v26) : (Int × Int)) => ([some (.arr 5 1 (v17.map rU))] : Fo)) (fun (r : ByteArray) => ((ST r : V), ([] : Fo))) ?_ ?_ (v16, 0) _ (fun kk => by kernel_rfl) h
    · clear h
      rintro next_nx27 nx27 i24 hi_i24 hnx27 ⟨v25, v26⟩ r h
      try dsimp only at h
      have hn_i24 : i24 < 4611686018427387904 := by omega
      have hd_i24 : (decide ((i24 : Int) < 8)) = true := decide_eq_true (by omega)
      conv => lhs; whnf
      try (first | rw [hd_i24] | (split; (first | (rename_i hx; exact absurd (hd_i24.symm.trans hx) (by decide)) | (rotate_left; rename_i hx; exact absurd (hd_i24.symm.trans hx) (by decide)))))
      conv => lhs; whnf
      obtain ⟨hg29, h⟩ := grd_inv h
      try (rw [shl_run _ _ _ _ _ hg29]; conv => lhs; whnf)
      conv => lhs; whnf
      obtain ⟨y28, h_y28, h⟩ := callK_inv h
      rw [cl_eq hcl (L_spec_l02Step v25 h_y28)]
      rotate_left
      · show _ = _; kernel_rfl
      · show _ = _; kernel_rfl
      conv => lhs; whnf
      rw [wrap_nat i24 (by have := hn_i24; omega)]
      exact hnx27 _ _ _ _ (fun kk => by kernel_rfl) h
    · clear h
      rintro next_nx27 ⟨v25, v26⟩ r h
      try dsimp only at h
      have hd_i24 : (decide (((Int.toNat 8) : Int) < 8)) = false := decide_eq_false (by omega)
      conv => lhs; whnf
      try (first | rw [hd_i24] | (split; (first | (rename_i hx; exact absurd (hd_i24.symm.trans hx) (by decide)) | (rotate_left; rename_i hx; exact absurd (hd_i24.symm.trans hx) (by decide)))))
      conv => lhs; whnf
      obtain ⟨hg30, h⟩ := grd_inv h
      rw [app_eq hg30 ?h1 ?h2]
      case h1 => first | exact rfl | (simp only [List.length_map, List.length_cons, List.length_nil]; done) | (rw [List.length_map]; rfl)
      case h2 => exact rfl
      conv => lhs; whnf
      first | (rw [map_app_of (r := rU) (l := v17) (m := ([(IntKind.u8.wrap v26)] : List Int)) ?hh]; case hh => exact rfl) | skip
      rw [wrap_nat i15 (by have := hn_i15; omega)]
      exact hnx18 _ _ _ _ (fun kk => by kernel_rfl) h
  · clear h
    rintro next_nx18 ⟨v16, v17⟩ r h
    try dsimp only at h
    have hd_i15 : (decide (((Int.toNat a_1) : Int) < a_1)) = false := decide_eq_false (by omega)
    conv => lhs; whnf
    try (first | rw [hd_i15] | (split; (first | (rename_i hx; exact absurd (hd_i15.symm.trans hx) (by decide)) | (rotate_left; rename_i hx; exact absurd (hd_i15.symm.trans hx) (by decide)))))
    conv => lhs; whnf
    try rw [byteRows_rU]
    conv => lhs; whnf
    obtain rfl := Option.some.inj h; show _ = _; kernel_rfl


noncomputable def p_spec_l02Xor (a_0 : ByteArray) (a_1 : ByteArray) : Option ByteArray :=
  grd ((ByteArray.size a_0 : Int) < 4611686018427387904) <|
  forI (ByteArray.size a_0 : Int) (fun (i6 : Nat) (v7 : List Int) (nx8 : (List Int) → Option _) =>
    getB a_0 (i6 : Int) fun c9 =>
    getB a_1 (i6 : Int) fun c10 =>
    grd (appOk (v7.length + 1) 1 = true) <|
    nx8 (v7 ++ ([(xorK .u8 c9 c10)] : List Int))) ([] : List Int) (fun (v7 : List Int) =>
    some (bytesOf (v7.map rU)))

set_option maxHeartbeats 4000000 in
theorem L_spec_l02Xor (a_0 : ByteArray) (a_1 : ByteArray) {r : ByteArray} (h : p_spec_l02Xor a_0 a_1 = some r) : callL E 312 [ST a_0, ST a_1] ([] : Fo) = some (ST r, ([] : Fo)) := by
  unfold p_spec_l02Xor at h
  refine callW (fu := Try.f312) rfl rfl rfl NN ?_
  intro lp cl hlp hcl
  conv => lhs; whnf
  obtain ⟨hl_i6, h⟩ := grd_inv h
  refine loop_forI hlp (n := (ByteArray.size a_0 : Int)) hl_i6 (fun (i6 : Nat) (v7 : List Int) => ([ST a_0, ST a_1, .dead, .dead, .dead, .sl 0, IN (i6 : Int)] ++ List.replicate 19 .dead : List V)) (fun (i6 : Nat) (v7 : List Int) => ([some (.arr 5 1 (v7.map rU))] : Fo)) (fun (r : ByteArray) => ((ST r : V), ([] : Fo))) ?_ ?_ ([] : List Int) _ (fun kk => by kernel_rfl) h
  · clear h
    rintro next_nx8 nx8 i6 hi_i6 hnx8 v7 r h
    try dsimp only at h
    have hn_i6 : i6 < 4611686018427387904 := by omega
    have hd_i6 : (decide ((i6 : Int) < (ByteArray.size a_0 : Int))) = true := decide_eq_true (by omega)
    conv => lhs; whnf
    try (first | rw [hd_i6] | (split; (first | (rename_i hx; exact absurd (hd_i6.symm.trans hx) (by decide)) | (rotate_left; rename_i hx; exact absurd (hd_i6.symm.trans hx) (by decide)))))
    conv => lhs; whnf
    obtain ⟨c9', hq_c9, hc_c9, h⟩ := getB_inv h
    try (rw [decide_eq_true hq_c9]; conv => lhs; whnf)
    rw [hc_c9]
    conv => lhs; whnf
    generalize he_c9 : (c9'.toNat : Int) = c9 at h ⊢
    conv => lhs; whnf
    obtain ⟨c10', hq_c10, hc_c10, h⟩ := getB_inv h
    try (rw [decide_eq_true hq_c10]; conv => lhs; whnf)
    rw [hc_c10]
    conv => lhs; whnf
    generalize he_c10 : (c10'.toNat : Int) = c10 at h ⊢
    conv => lhs; whnf
    obtain ⟨hg11, h⟩ := grd_inv h
    rw [app_eq hg11 ?h1 ?h2]
    case h1 => first | exact rfl | (simp only [List.length_map, List.length_cons, List.length_nil]; done) | (rw [List.length_map]; rfl)
    case h2 => exact rfl
    conv => lhs; whnf
    first | (rw [map_app_of (r := rU) (l := v7) (m := ([(xorK .u8 c9 c10)] : List Int)) ?hh]; case hh => exact rfl) | skip
    rw [wrap_nat i6 (by have := hn_i6; omega)]
    exact hnx8 _ _ _ _ (fun kk => by kernel_rfl) h
  · clear h
    rintro next_nx8 v7 r h
    try dsimp only at h
    have hd_i6 : (decide (((Int.toNat (ByteArray.size a_0 : Int)) : Int) < (ByteArray.size a_0 : Int))) = false := decide_eq_false (by omega)
    conv => lhs; whnf
    try (first | rw [hd_i6] | (split; (first | (rename_i hx; exact absurd (hd_i6.symm.trans hx) (by decide)) | (rotate_left; rename_i hx; exact absurd (hd_i6.symm.trans hx) (by decide)))))
    conv => lhs; whnf
    try rw [byteRows_rU]
    conv => lhs; whnf
    obtain rfl := Option.some.inj h; show _ = _; kernel_rfl


noncomputable def p_spec_Scramble (a_0 : Int) (a_1 : ByteArray) : Option (ByteArray × Int) :=
  if (inR a_0 0 65534) = true then
    if (ByteArray.size a_1 : Int) > 256 then
      some ((⟨#[]⟩ : ByteArray), 2)
    else
      callK (p_spec_l02Stream (IntKind.i64.wrap (a_0 + 1)) (ByteArray.size a_1 : Int)) fun y3 =>
      callK (p_spec_l02Xor a_1 y3) fun y4 =>
      some (y4, 0)
  else
    some ((⟨#[]⟩ : ByteArray), 2)

set_option maxHeartbeats 4000000 in
theorem L_spec_Scramble (a_0 : Int) (a_1 : ByteArray) {r : (ByteArray × Int)} (h : p_spec_Scramble a_0 a_1 = some r) : callL E 292 [IN a_0, ST a_1] ([] : Fo) = some (.tup [ST r.1, IN r.2], ([] : Fo)) := by
  unfold p_spec_Scramble at h
  refine callW (fu := Try.f292) rfl rfl rfl NN ?_
  intro lp cl hlp hcl
  conv => lhs; whnf
  rw [cl_eq hcl (L_spec_l00In a_0 0 65534 (pl_l00In a_0 0 65534))]
  rotate_left
  · show _ = _; kernel_rfl
  · show _ = _; kernel_rfl
  conv => lhs; whnf
  cases hb1 : (inR a_0 0 65534)
  · replace h := ifF h (booF hb1); conv => lhs; whnf
    try (rw [hb1]; conv => lhs; whnf)
    try (rw [hb1]; conv => lhs; whnf)
    try (rw [hb1]; conv => lhs; whnf)
    obtain rfl := Option.some.inj h; show _ = _; kernel_rfl

  · replace h := ifT h hb1; conv => lhs; whnf
    try (rw [hb1]; conv => lhs; whnf)
    try (rw [hb1]; conv => lhs; whnf)
    try (rw [hb1]; conv => lhs; whnf)
    cases hb2 : (decide ((ByteArray.size a_1 : Int) > 256))
    · replace h := ifF h (decF hb2); conv => lhs; whnf
      obtain ⟨y3, h_y3, h⟩ := callK_inv h
      rw [cl_eq hcl (L_spec_l02Stream (IntKind.i64.wrap (a_0 + 1)) (ByteArray.size a_1 : Int) h_y3)]
      rotate_left
      · show _ = _; kernel_rfl
      · show _ = _; kernel_rfl
      conv => lhs; whnf
      obtain ⟨y4, h_y4, h⟩ := callK_inv h
      rw [cl_eq hcl (L_spec_l02Xor a_1 y3 h_y4)]
      rotate_left
      · show _ = _; kernel_rfl
      · show _ = _; kernel_rfl
      conv => lhs; whnf
      obtain rfl := Option.some.inj h; show _ = _; kernel_rfl

    · replace h := ifT h (decT hb2); conv => lhs; whnf
      obtain rfl := Option.some.inj h; show _ = _; kernel_rfl


noncomputable def p_spec_l03Words (a_0 : ByteArray) : Option Bool :=
  if (Int.tmod (ByteArray.size a_0 : Int) 8) = 0 then
    some (decide ((ByteArray.size a_0 : Int) ≤ 256))
  else
    some false

set_option maxHeartbeats 4000000 in
theorem L_spec_l03Words (a_0 : ByteArray) {r : Bool} (h : p_spec_l03Words a_0 = some r) : callL E 314 [ST a_0] ([] : Fo) = some (BO r, ([] : Fo)) := by
  unfold p_spec_l03Words at h
  refine callW (fu := Try.f314) rfl rfl rfl NN ?_
  intro lp cl hlp hcl
  conv => lhs; whnf
  try (rw [rem_run _ _ _ 8 (by decide)]; conv => lhs; whnf)
  conv => lhs; whnf
  cases hb1 : ((Int.tmod (ByteArray.size a_0 : Int) 8) == 0)
  · replace h := ifF h (beqF hb1); conv => lhs; whnf
    try (rw [hb1]; conv => lhs; whnf)
    try (rw [hb1]; conv => lhs; whnf)
    try (rw [hb1]; conv => lhs; whnf)
    obtain rfl := Option.some.inj h; show _ = _; kernel_rfl

  · replace h := ifT h (beqT hb1); conv => lhs; whnf
    try (rw [hb1]; conv => lhs; whnf)
    try (rw [hb1]; conv => lhs; whnf)
    try (rw [hb1]; conv => lhs; whnf)
    obtain rfl := Option.some.inj h; show _ = _; kernel_rfl


noncomputable def p_spec_l03Bit (a_0 : ByteArray) (a_1 : Int) (a_2 : Int) : Option Int :=
  if a_2 ≥ 64 then
    grd (0 ≤ (IntKind.u64.wrap (IntKind.i64.wrap (a_2 - 64)))) <|
    some (andK .i64 (Int.fdiv a_1 (2 ^ (min (Int.toNat (IntKind.u64.wrap (IntKind.i64.wrap (a_2 - 64)))) IntKind.i64.bits))) 1)
  else
    getB a_0 (IntKind.i64.wrap (Int.tdiv a_2 8)) fun c2 =>
    grd (0 ≤ (IntKind.u64.wrap (Int.tmod a_2 8))) <|
    some (andK .i64 (IntKind.i64.wrap (Int.fdiv c2 (2 ^ (min (Int.toNat (IntKind.u64.wrap (Int.tmod a_2 8))) IntKind.u8.bits)))) 1)

set_option maxHeartbeats 4000000 in
theorem L_spec_l03Bit (a_0 : ByteArray) (a_1 : Int) (a_2 : Int) {r : Int} (h : p_spec_l03Bit a_0 a_1 a_2 = some r) : callL E 330 [ST a_0, IN a_1, IN a_2] ([] : Fo) = some (IN r, ([] : Fo)) := by
  unfold p_spec_l03Bit at h
  refine callW (fu := Try.f330) rfl rfl rfl NN ?_
  intro lp cl hlp hcl
  conv => lhs; whnf
  cases hb1 : (decide (a_2 ≥ 64))
  · replace h := ifF h (decF hb1); conv => lhs; whnf
    try (rw [quo_run _ _ _ 8 (by decide)]; conv => lhs; whnf)
    conv => lhs; whnf
    obtain ⟨c2', hq_c2, hc_c2, h⟩ := getB_inv h
    try (rw [decide_eq_true hq_c2]; conv => lhs; whnf)
    rw [hc_c2]
    conv => lhs; whnf
    generalize he_c2 : (c2'.toNat : Int) = c2 at h ⊢
    conv => lhs; whnf
    try (rw [rem_run _ _ _ 8 (by decide)]; conv => lhs; whnf)
    conv => lhs; whnf
    obtain ⟨hg3, h⟩ := grd_inv h
    try (rw [shr_run _ _ _ _ _ hg3]; conv => lhs; whnf)
    conv => lhs; whnf
    obtain rfl := Option.some.inj h; show _ = _; kernel_rfl

  · replace h := ifT h (decT hb1); conv => lhs; whnf
    obtain ⟨hg4, h⟩ := grd_inv h
    try (rw [shr_run _ _ _ _ _ hg4]; conv => lhs; whnf)
    conv => lhs; whnf
    obtain rfl := Option.some.inj h; show _ = _; kernel_rfl


noncomputable def p_spec_l03Position (a_0 : Int) : Option Int :=
  if a_0 ≥ 64 then
    grd (0 ≤ (IntKind.u64.wrap (IntKind.i64.wrap (a_0 - 64)))) <|
    some (IntKind.i64.wrap (1 * 2 ^ (min (Int.toNat (IntKind.u64.wrap (IntKind.i64.wrap (a_0 - 64)))) IntKind.i64.bits)))
  else
    iterK (fun ((v2, v3) : (Int × Int)) (nx4 : (Int × Int) → Option _) =>
      if v3 < a_0 then
        if ¬ (andK .i64 (IntKind.i64.wrap (v2 + 1)) (IntKind.i64.wrap ((IntKind.i64.wrap (v2 + 1)) - 1))) = 0 then
          nx4 ((IntKind.i64.wrap (v2 + 1)), (IntKind.i64.wrap (v3 + 1)))
        else
          nx4 ((IntKind.i64.wrap (v2 + 1)), v3)
      else
        some v2) NN (2, (-1))

set_option maxHeartbeats 4000000 in
theorem L_spec_l03Position (a_0 : Int) {r : Int} (h : p_spec_l03Position a_0 = some r) : callL E 331 [IN a_0] ([] : Fo) = some (IN r, ([] : Fo)) := by
  unfold p_spec_l03Position at h
  refine callW (fu := Try.f331) rfl rfl rfl NN ?_
  intro lp cl hlp hcl
  conv => lhs; whnf
  cases hb1 : (decide (a_0 ≥ 64))
  · replace h := ifF h (decF hb1); conv => lhs; whnf
    refine loop_iter hlp (fun ((v2, v3) : (Int × Int)) => ([IN a_0, .dead, .dead, IN v2, IN v3] ++ List.replicate 19 .dead : List V)) (fun ((v2, v3) : (Int × Int)) => ([] : Fo)) (fun (r : Int) => ((IN r : V), ([] : Fo))) ?_ (2, (-1)) _ (fun kk => by kernel_rfl) h
    clear h
    rintro next_nx4 nx4 hnx4 ⟨v2, v3⟩ r h
    try dsimp only at h
    conv => lhs; whnf
    cases hb5 : (decide (v3 < a_0))
    · replace h := ifF h (decF hb5); conv => lhs; whnf
      obtain rfl := Option.some.inj h; show _ = _; kernel_rfl

    · replace h := ifT h (decT hb5); conv => lhs; whnf
      cases hb6 : ((andK .i64 (IntKind.i64.wrap (v2 + 1)) (IntKind.i64.wrap ((IntKind.i64.wrap (v2 + 1)) - 1))) != 0)
      · replace h := ifF h ((fun h => not_not_intro (bneF h)) hb6); conv => lhs; whnf
        exact hnx4 _ _ _ _ (fun kk => by kernel_rfl) h
      · replace h := ifT h (bneT hb6); conv => lhs; whnf
        exact hnx4 _ _ _ _ (fun kk => by kernel_rfl) h
  · replace h := ifT h (decT hb1); conv => lhs; whnf
    obtain ⟨hg7, h⟩ := grd_inv h
    try (rw [shl_run _ _ _ _ _ hg7]; conv => lhs; whnf)
    conv => lhs; whnf
    obtain rfl := Option.some.inj h; show _ = _; kernel_rfl


noncomputable def p_spec_l03Syndrome (a_0 : ByteArray) (a_1 : Int) : Option (Int × Int) :=
  grd ((72 : Int) < 4611686018427387904) <|
  forI (72 : Int) (fun (i9 : Nat) ((v10, v11) : (Int × Int)) (nx12 : (Int × Int) → Option _) =>
    callK (p_spec_l03Bit a_0 a_1 (i9 : Int)) fun y13 =>
    if y13 = 0 then
      nx12 (v10, v11)
    else
      if (i9 : Int) < 71 then
        callK (p_spec_l03Position (i9 : Int)) fun y16 =>
        nx12 ((xorK .i64 v10 y16), (xorK .i64 v11 1))
      else
        nx12 (v10, (xorK .i64 v11 1))) (0, 0) (fun ((v10, v11) : (Int × Int)) =>
    some (v10, v11))

set_option maxHeartbeats 4000000 in
theorem L_spec_l03Syndrome (a_0 : ByteArray) (a_1 : Int) {r : (Int × Int)} (h : p_spec_l03Syndrome a_0 a_1 = some r) : callL E 327 [ST a_0, IN a_1] ([] : Fo) = some (.tup [IN r.1, IN r.2], ([] : Fo)) := by
  unfold p_spec_l03Syndrome at h
  refine callW (fu := Try.f327) rfl rfl rfl NN ?_
  intro lp cl hlp hcl
  conv => lhs; whnf
  obtain ⟨hl_i9, h⟩ := grd_inv h
  refine loop_forI hlp (n := (72 : Int)) hl_i9 (fun (i9 : Nat) ((v10, v11) : (Int × Int)) => ([ST a_0, IN a_1, .dead, .dead, .dead, .dead, IN v10, IN v11, IN (i9 : Int)] ++ List.replicate 19 .dead : List V)) (fun (i9 : Nat) ((v10, v11) : (Int × Int)) => ([] : Fo)) (fun (r : (Int × Int)) => ((.tup [IN r.1, IN r.2] : V), ([] : Fo))) ?_ ?_ (0, 0) _ (fun kk => by kernel_rfl) h
  · clear h
    rintro next_nx12 nx12 i9 hi_i9 hnx12 ⟨v10, v11⟩ r h
    try dsimp only at h
    have hn_i9 : i9 < 4611686018427387904 := by omega
    have hd_i9 : (decide ((i9 : Int) < 72)) = true := decide_eq_true (by omega)
    conv => lhs; whnf
    try (first | rw [hd_i9] | (split; (first | (rename_i hx; exact absurd (hd_i9.symm.trans hx) (by decide)) | (rotate_left; rename_i hx; exact absurd (hd_i9.symm.trans hx) (by decide)))))
    conv => lhs; whnf
    obtain ⟨y13, h_y13, h⟩ := callK_inv h
    rw [cl_eq hcl (L_spec_l03Bit a_0 a_1 (i9 : Int) h_y13)]
    rotate_left
    · show _ = _; kernel_rfl
    · show _ = _; kernel_rfl
    conv => lhs; whnf
    cases hb14 : (y13 == 0)
    · replace h := ifF h (beqF hb14); conv => lhs; whnf
      cases hb15 : (decide ((i9 : Int) < 71))
      · replace h := ifF h (decF hb15); conv => lhs; whnf
        rw [wrap_nat i9 (by have := hn_i9; omega)]
        exact hnx12 _ _ _ _ (fun kk => by kernel_rfl) h
      · replace h := ifT h (decT hb15); conv => lhs; whnf
        obtain ⟨y16, h_y16, h⟩ := callK_inv h
        rw [cl_eq hcl (L_spec_l03Position (i9 : Int) h_y16)]
        rotate_left
        · show _ = _; kernel_rfl
        · show _ = _; kernel_rfl
        conv => lhs; whnf
        rw [wrap_nat i9 (by have := hn_i9; omega)]
        exact hnx12 _ _ _ _ (fun kk => by kernel_rfl) h
    · replace h := ifT h (beqT hb14); conv => lhs; whnf
      rw [wrap_nat i9 (by have := hn_i9; omega)]
      exact hnx12 _ _ _ _ (fun kk => by kernel_rfl) h
  · clear h
    rintro next_nx12 ⟨v10, v11⟩ r h
    try dsimp only at h
    have hd_i9 : (decide (((Int.toNat 72) : Int) < 72)) = false := decide_eq_false (by omega)
    conv => lhs; whnf
    try (first | rw [hd_i9] | (split; (first | (rename_i hx; exact absurd (hd_i9.symm.trans hx) (by decide)) | (rotate_left; rename_i hx; exact absurd (hd_i9.symm.trans hx) (by decide)))))
    conv => lhs; whnf
    obtain rfl := Option.some.inj h; show _ = _; kernel_rfl


noncomputable def p_spec_l03Check (a_0 : ByteArray) : Option Int :=
  callK (p_spec_l03Syndrome a_0 0) fun y1 =>
  callK (p_spec_l03Syndrome a_0 y1.1) fun y2 =>
  some (orK .i64 y1.1 (IntKind.i64.wrap (y2.2 * 2 ^ (min (Int.toNat 7) IntKind.i64.bits))))

set_option maxHeartbeats 4000000 in
theorem L_spec_l03Check (a_0 : ByteArray) {r : Int} (h : p_spec_l03Check a_0 = some r) : callL E 315 [ST a_0] ([] : Fo) = some (IN r, ([] : Fo)) := by
  unfold p_spec_l03Check at h
  refine callW (fu := Try.f315) rfl rfl rfl NN ?_
  intro lp cl hlp hcl
  conv => lhs; whnf
  obtain ⟨y1, h_y1, h⟩ := callK_inv h
  rw [cl_eq hcl (L_spec_l03Syndrome a_0 0 h_y1)]
  rotate_left
  · show _ = _; kernel_rfl
  · show _ = _; kernel_rfl
  conv => lhs; whnf
  obtain ⟨y2, h_y2, h⟩ := callK_inv h
  rw [cl_eq hcl (L_spec_l03Syndrome a_0 y1.1 h_y2)]
  rotate_left
  · show _ = _; kernel_rfl
  · show _ = _; kernel_rfl
  conv => lhs; whnf
  obtain rfl := Option.some.inj h; show _ = _; kernel_rfl


noncomputable def p_spec_EncodeEcc (a_0 : ByteArray) : Option (ByteArray × Int) :=
  callK (p_spec_l03Words a_0) fun y1 =>
  if y1 = true then
    iterK (fun ((v3, v4) : (Int × (List Int))) (nx5 : (Int × (List Int)) → Option _) =>
      if v3 < (ByteArray.size a_0 : Int) then
        grd (0 ≤ v3 ∧ v3 ≤ (IntKind.i64.wrap (v3 + 8)) ∧ (IntKind.i64.wrap (v3 + 8)) ≤ (ByteArray.size a_0 : Int)) <|
        callK (p_spec_l03Check (ByteArray.extract a_0 (Int.toNat v3) (Int.toNat (IntKind.i64.wrap (v3 + 8))))) fun y7 =>
        grd (appOk (v4.length + 1) 1 = true) <|
        nx5 ((IntKind.i64.wrap (v3 + 8)), (v4 ++ ([(IntKind.u8.wrap y7)] : List Int)))
      else
        some ((bytesOf (v4.map rU)), 0)) NN (0, ([] : List Int))
  else
    some ((⟨#[]⟩ : ByteArray), 1)

set_option maxHeartbeats 4000000 in
theorem L_spec_EncodeEcc (a_0 : ByteArray) {r : (ByteArray × Int)} (h : p_spec_EncodeEcc a_0 = some r) : callL E 293 [ST a_0] ([] : Fo) = some (.tup [ST r.1, IN r.2], ([] : Fo)) := by
  unfold p_spec_EncodeEcc at h
  refine callW (fu := Try.f293) rfl rfl rfl NN ?_
  intro lp cl hlp hcl
  conv => lhs; whnf
  obtain ⟨y1, h_y1, h⟩ := callK_inv h
  rw [cl_eq hcl (L_spec_l03Words a_0 h_y1)]
  rotate_left
  · show _ = _; kernel_rfl
  · show _ = _; kernel_rfl
  conv => lhs; whnf
  cases hb2 : y1
  · replace h := ifF h (booF hb2); conv => lhs; whnf
    obtain rfl := Option.some.inj h; show _ = _; kernel_rfl

  · replace h := ifT h hb2; conv => lhs; whnf
    refine loop_iter hlp (fun ((v3, v4) : (Int × (List Int))) => ([ST a_0, .dead, .dead, .dead, .sl 0, IN v3] ++ List.replicate 22 .dead : List V)) (fun ((v3, v4) : (Int × (List Int))) => ([some (.arr 5 1 (v4.map rU))] : Fo)) (fun (r : (ByteArray × Int)) => ((.tup [ST r.1, IN r.2] : V), ([] : Fo))) ?_ (0, ([] : List Int)) _ (fun kk => by kernel_rfl) h
    clear h
    rintro next_nx5 nx5 hnx5 ⟨v3, v4⟩ r h
    try dsimp only at h
    conv => lhs; whnf
    cases hb6 : (decide (v3 < (ByteArray.size a_0 : Int)))
    · replace h := ifF h (decF hb6); conv => lhs; whnf
      try rw [byteRows_rU]
      conv => lhs; whnf
      obtain rfl := Option.some.inj h; show _ = _; kernel_rfl

    · replace h := ifT h (decT hb6); conv => lhs; whnf
      obtain ⟨hg8, h⟩ := grd_inv h
      try (rw [decide_eq_true hg8.1]; conv => lhs; whnf)
      try (rw [decide_eq_true hg8.2.1]; conv => lhs; whnf)
      try (rw [decide_eq_true hg8.2.2])
      conv => lhs; whnf
      obtain ⟨y7, h_y7, h⟩ := callK_inv h
      rw [cl_eq hcl (L_spec_l03Check (ByteArray.extract a_0 (Int.toNat v3) (Int.toNat (IntKind.i64.wrap (v3 + 8)))) h_y7)]
      rotate_left
      · show _ = _; kernel_rfl
      · show _ = _; kernel_rfl
      conv => lhs; whnf
      obtain ⟨hg9, h⟩ := grd_inv h
      rw [app_eq hg9 ?h1 ?h2]
      case h1 => first | exact rfl | (simp only [List.length_map, List.length_cons, List.length_nil]; done) | (rw [List.length_map]; rfl)
      case h2 => exact rfl
      conv => lhs; whnf
      first | (rw [map_app_of (r := rU) (l := v4) (m := ([(IntKind.u8.wrap y7)] : List Int)) ?hh]; case hh => exact rfl) | skip
      exact hnx5 _ _ _ _ (fun kk => by kernel_rfl) h

noncomputable def p_spec_l05Seal (a_0 : ByteArray) (a_1 : ByteArray) (a_2 : Int) : Option ByteArray :=
  grd (((ByteArray.size a_0 + ByteArray.size a_1 : Nat) : Int) ≤ 9223372036854775807) <|
  callK (p_spec_Scramble a_2 (a_0 ++ a_1)) fun y1 =>
  callK (p_spec_EncodeEcc y1.1) fun y2 =>
  grd (((ByteArray.size y1.1 + ByteArray.size y2.1 : Nat) : Int) ≤ 9223372036854775807) <|
  grd (((ByteArray.size (y1.1 ++ y2.1) + ByteArray.size (bytesOf ([[.lit (.int .u8 90)]] : List (List D))) : Nat) : Int) ≤ 9223372036854775807) <|
  some ((y1.1 ++ y2.1) ++ (bytesOf ([[.lit (.int .u8 90)]] : List (List D))))

set_option maxHeartbeats 4000000 in
theorem L_spec_l05Seal (a_0 : ByteArray) (a_1 : ByteArray) (a_2 : Int) {r : ByteArray} (h : p_spec_l05Seal a_0 a_1 a_2 = some r) : callL E 237 [ST a_0, ST a_1, IN a_2] ([] : Fo) = some (ST r, ([] : Fo)) := by
  unfold p_spec_l05Seal at h
  refine callW (fu := Try.f237) rfl rfl rfl NN ?_
  intro lp cl hlp hcl
  conv => lhs; whnf
  obtain ⟨hg3, h⟩ := grd_inv h
  rw [cat_run _ _ _ hg3]
  conv => lhs; whnf
  obtain ⟨y1, h_y1, h⟩ := callK_inv h
  rw [cl_eq hcl (L_spec_Scramble a_2 (a_0 ++ a_1) h_y1)]
  rotate_left
  · show _ = _; kernel_rfl
  · show _ = _; kernel_rfl
  conv => lhs; whnf
  obtain ⟨y2, h_y2, h⟩ := callK_inv h
  rw [cl_eq hcl (L_spec_EncodeEcc y1.1 h_y2)]
  rotate_left
  · show _ = _; kernel_rfl
  · show _ = _; kernel_rfl
  conv => lhs; whnf
  obtain ⟨hg4, h⟩ := grd_inv h
  rw [cat_run _ _ _ hg4]
  conv => lhs; whnf
  obtain ⟨hg5, h⟩ := grd_inv h
  rw [cat_run _ _ _ hg5]
  conv => lhs; whnf
  obtain rfl := Option.some.inj h; show _ = _; kernel_rfl


noncomputable def p_spec_SealPage (a_0 : ByteArray) (a_1 : ByteArray) (a_2 : Int) : Option (ByteArray × Int) :=
  if ¬ (ByteArray.size a_0 : Int) = 64 then
    some ((⟨#[]⟩ : ByteArray), 1)
  else
    if ¬ (ByteArray.size a_1 : Int) = 16 then
      some ((⟨#[]⟩ : ByteArray), 1)
    else
      if (inR a_2 0 65534) = true then
        callK (p_spec_l05Seal a_0 a_1 a_2) fun y4 =>
        some (y4, 0)
      else
        some ((⟨#[]⟩ : ByteArray), 2)

set_option maxHeartbeats 4000000 in
theorem L_spec_SealPage (a_0 : ByteArray) (a_1 : ByteArray) (a_2 : Int) {r : (ByteArray × Int)} (h : p_spec_SealPage a_0 a_1 a_2 = some r) : callL E 213 [ST a_0, ST a_1, IN a_2] ([] : Fo) = some (.tup [ST r.1, IN r.2], ([] : Fo)) := by
  unfold p_spec_SealPage at h
  refine callW (fu := Try.f213) rfl rfl rfl NN ?_
  intro lp cl hlp hcl
  conv => lhs; whnf
  cases hb1 : ((ByteArray.size a_0 : Int) != 64)
  · replace h := ifF h ((fun h => not_not_intro (bneF h)) hb1); conv => lhs; whnf
    try (rw [hb1]; conv => lhs; whnf)
    try (rw [hb1]; conv => lhs; whnf)
    try (rw [hb1]; conv => lhs; whnf)
    cases hb2 : ((ByteArray.size a_1 : Int) != 16)
    · replace h := ifF h ((fun h => not_not_intro (bneF h)) hb2); conv => lhs; whnf
      rw [cl_eq hcl (L_spec_l00In a_2 0 65534 (pl_l00In a_2 0 65534))]
      rotate_left
      · show _ = _; kernel_rfl
      · show _ = _; kernel_rfl
      conv => lhs; whnf
      cases hb3 : (inR a_2 0 65534)
      · replace h := ifF h (booF hb3); conv => lhs; whnf
        obtain rfl := Option.some.inj h; show _ = _; kernel_rfl

      · replace h := ifT h hb3; conv => lhs; whnf
        obtain ⟨y4, h_y4, h⟩ := callK_inv h
        rw [cl_eq hcl (L_spec_l05Seal a_0 a_1 a_2 h_y4)]
        rotate_left
        · show _ = _; kernel_rfl
        · show _ = _; kernel_rfl
        conv => lhs; whnf
        obtain rfl := Option.some.inj h; show _ = _; kernel_rfl

    · replace h := ifT h (bneT hb2); conv => lhs; whnf
      obtain rfl := Option.some.inj h; show _ = _; kernel_rfl

  · replace h := ifT h (bneT hb1); conv => lhs; whnf
    try (rw [hb1]; conv => lhs; whnf)
    try (rw [hb1]; conv => lhs; whnf)
    try (rw [hb1]; conv => lhs; whnf)
    obtain rfl := Option.some.inj h; show _ = _; kernel_rfl


noncomputable def p_spec_l06Block (a_0 : Block) (a_1 : Int) : Option Bool :=
  if (inR a_0.Erases 0 1000) = true then
    if (inR a_0.Next 0 a_1) = true then
      if ¬ (a_0.Pages.length : Int) = a_1 then
        some false
      else
        grd (a_1 < 4611686018427387904) <|
        forI a_1 (fun (i10 : Nat) (_ : Unit) (nx11 : Unit → Option _) =>
          getK a_0.Pages (i10 : Int) fun x12 =>
          if ¬ (ByteArray.size x12 : Int) = 0 then
            if ¬ (ByteArray.size x12 : Int) = 91 then
              some false
            else
              if (i10 : Int) ≥ a_0.Next then
                some false
              else
                nx11 ()
          else
            nx11 ()) () (fun (_ : Unit) =>
          some true)
    else
      some false
  else
    some false

set_option maxHeartbeats 4000000 in
theorem L_spec_l06Block (a_0 : Block) (a_1 : Int) {r : Bool} (h : p_spec_l06Block a_0 a_1 = some r) : callL E 143 [.agg [IN a_0.Erases, IN a_0.Next, BO a_0.Bad, .d (.arr (a_0.Pages.map rS))], IN a_1] ([] : Fo) = some (BO r, ([] : Fo)) := by
  unfold p_spec_l06Block at h
  refine callW (fu := Try.f143) rfl rfl rfl NN ?_
  intro lp cl hlp hcl
  conv => lhs; whnf
  rw [cl_eq hcl (L_spec_l00In a_0.Erases 0 1000 (pl_l00In a_0.Erases 0 1000))]
  rotate_left
  · show _ = _; kernel_rfl
  · show _ = _; kernel_rfl
  conv => lhs; whnf
  cases hb1 : (inR a_0.Erases 0 1000)
  · replace h := ifF h (booF hb1); conv => lhs; whnf
    try (rw [hb1]; conv => lhs; whnf)
    try (rw [hb1]; conv => lhs; whnf)
    try (rw [hb1]; conv => lhs; whnf)
    try (rw [hb1]; conv => lhs; whnf)
    try (rw [hb1]; conv => lhs; whnf)
    obtain rfl := Option.some.inj h; show _ = _; kernel_rfl

  · replace h := ifT h hb1; conv => lhs; whnf
    try (rw [hb1]; conv => lhs; whnf)
    try (rw [hb1]; conv => lhs; whnf)
    try (rw [hb1]; conv => lhs; whnf)
    rw [cl_eq hcl (L_spec_l00In a_0.Next 0 a_1 (pl_l00In a_0.Next 0 a_1))]
    rotate_left
    · show _ = _; kernel_rfl
    · show _ = _; kernel_rfl
    conv => lhs; whnf
    try (rw [hb1]; conv => lhs; whnf)
    try (rw [hb1]; conv => lhs; whnf)
    cases hb2 : (inR a_0.Next 0 a_1)
    · replace h := ifF h (booF hb2); conv => lhs; whnf
      try (rw [hb2]; conv => lhs; whnf)
      try (rw [hb2]; conv => lhs; whnf)
      try (rw [hb2]; conv => lhs; whnf)
      try (rw [hb2]; conv => lhs; whnf)
      try (rw [hb2]; conv => lhs; whnf)
      obtain rfl := Option.some.inj h; show _ = _; kernel_rfl

    · replace h := ifT h hb2; conv => lhs; whnf
      try (rw [hb2]; conv => lhs; whnf)
      try (rw [hb2]; conv => lhs; whnf)
      try rw [len_of (l := a_0.Pages) (r := rS)]
      try (rw [hb2]; conv => lhs; whnf)
      try (rw [hb2]; conv => lhs; whnf)
      try (rw [hb2]; conv => lhs; whnf)
      cases hb3 : ((a_0.Pages.length : Int) != a_1)
      · replace h := ifF h ((fun h => not_not_intro (bneF h)) hb3); conv => lhs; whnf
        obtain ⟨hl_i10, h⟩ := grd_inv h
        refine loop_forI hlp (n := a_1) hl_i10 (fun (i10 : Nat) (_ : Unit) => ([.dead, IN a_1, .bp 0 0, .dead, .dead, IN (i10 : Int)] ++ List.replicate 42 .dead : List V)) (fun (i10 : Nat) (_ : Unit) => ([some (.box [IN a_0.Erases, IN a_0.Next, BO a_0.Bad, .d (.arr (a_0.Pages.map rS))])] : Fo)) (fun (r : Bool) => ((BO r : V), ([] : Fo))) ?_ ?_ () _ (fun kk => by kernel_rfl) h
        · clear h
          rintro next_nx11 nx11 i10 hi_i10 hnx11 ⟨⟩ r h
          try dsimp only at h
          have hn_i10 : i10 < 4611686018427387904 := by omega
          have hd_i10 : (decide ((i10 : Int) < a_1)) = true := decide_eq_true (by omega)
          conv => lhs; whnf
          try (first | rw [hd_i10] | (split; (first | (rename_i hx; exact absurd (hd_i10.symm.trans hx) (by decide)) | (rotate_left; rename_i hx; exact absurd (hd_i10.symm.trans hx) (by decide)))))
          conv => lhs; whnf
          obtain ⟨x12, hq_x12, hx_x12', h⟩ := getK_inv h
          have hx_x12 := get_of (r := rS) hx_x12'
          try (rw [decide_eq_true hq_x12]; conv => lhs; whnf)
          rw [hx_x12]
          conv => lhs; whnf
          rw [hx_x12]
          conv => lhs; whnf
          cases hb13 : ((ByteArray.size x12 : Int) != 0)
          · replace h := ifF h ((fun h => not_not_intro (bneF h)) hb13); conv => lhs; whnf
            try (rw [hb13]; conv => lhs; whnf)
            try (rw [hb13]; conv => lhs; whnf)
            try (rw [hb13]; conv => lhs; whnf)
            try (rw [hb13]; conv => lhs; whnf)
            rw [wrap_nat i10 (by have := hn_i10; omega)]
            exact hnx11 _ _ _ _ (fun kk => by kernel_rfl) h
          · replace h := ifT h (bneT hb13); conv => lhs; whnf
            try (rw [hb13]; conv => lhs; whnf)
            try (rw [hb13]; conv => lhs; whnf)
            cases hb14 : ((ByteArray.size x12 : Int) != 91)
            · replace h := ifF h ((fun h => not_not_intro (bneF h)) hb14); conv => lhs; whnf
              try (rw [hb14]; conv => lhs; whnf)
              try (rw [hb14]; conv => lhs; whnf)
              try (rw [hb14]; conv => lhs; whnf)
              try (rw [hb13]; conv => lhs; whnf)
              try (rw [hb14]; conv => lhs; whnf)
              try (rw [hb13]; conv => lhs; whnf)
              cases hb15 : (decide ((i10 : Int) ≥ a_0.Next))
              · replace h := ifF h (decF hb15); conv => lhs; whnf
                rw [wrap_nat i10 (by have := hn_i10; omega)]
                exact hnx11 _ _ _ _ (fun kk => by kernel_rfl) h
              · replace h := ifT h (decT hb15); conv => lhs; whnf
                obtain rfl := Option.some.inj h; show _ = _; kernel_rfl

            · replace h := ifT h (bneT hb14); conv => lhs; whnf
              try (rw [hb14]; conv => lhs; whnf)
              try (rw [hb14]; conv => lhs; whnf)
              try (rw [hb14]; conv => lhs; whnf)
              try (rw [hb13]; conv => lhs; whnf)
              try (rw [hb14]; conv => lhs; whnf)
              try (rw [hb13]; conv => lhs; whnf)
              obtain rfl := Option.some.inj h; show _ = _; kernel_rfl

        · clear h
          rintro next_nx11 ⟨⟩ r h
          try dsimp only at h
          have hd_i10 : (decide (((Int.toNat a_1) : Int) < a_1)) = false := decide_eq_false (by omega)
          conv => lhs; whnf
          try (first | rw [hd_i10] | (split; (first | (rename_i hx; exact absurd (hd_i10.symm.trans hx) (by decide)) | (rotate_left; rename_i hx; exact absurd (hd_i10.symm.trans hx) (by decide)))))
          conv => lhs; whnf
          obtain rfl := Option.some.inj h; show _ = _; kernel_rfl

      · replace h := ifT h (bneT hb3); conv => lhs; whnf
        obtain rfl := Option.some.inj h; show _ = _; kernel_rfl


noncomputable def p_spec_ValidFlash (a_0 : Flash) : Option Bool :=
  callK (p_spec_ValidGeometry a_0.Geo) fun y1 =>
  if y1 = true then
    if ¬ (a_0.Blocks.length : Int) = (IntKind.i64.wrap (a_0.Geo.Dies * a_0.Geo.Blocks)) then
      some false
    else
      if (inR a_0.Fuse (-1) 1000000) = true then
        if (inR a_0.Keep 0 91) = true then
          if a_0.Ops < 0 then
            some false
          else
            grd (a_0.Blocks.length < 4611686018427387904) <|
            forK a_0.Blocks (fun (i12 : Nat) x14 (_ : Unit) (nx13 : Unit → Option _) =>
              callK (p_spec_l06Block x14 a_0.Geo.Pages) fun y15 =>
              if y15 = true then
                nx13 ()
              else
                some false) () (fun (_ : Unit) =>
              some true)
        else
          some false
      else
        some false
  else
    some false

set_option maxHeartbeats 4000000 in
theorem L_spec_ValidFlash (a_0 : Flash) {r : Bool} (h : p_spec_ValidFlash a_0 = some r) : callL E 54 [.agg [IN a_0.Geo.Dies, IN a_0.Geo.Blocks, IN a_0.Geo.Pages, .d (.arr (a_0.Blocks.map rBlock)), IN a_0.Fuse, IN a_0.Keep, BO a_0.Off, IN a_0.Ops]] ([] : Fo) = some (BO r, ([] : Fo)) := by
  unfold p_spec_ValidFlash at h
  refine callW (fu := Try.f54) rfl rfl rfl NN ?_
  intro lp cl hlp hcl
  conv => lhs; whnf
  obtain ⟨y1, h_y1, h⟩ := callK_inv h
  rw [cl_eq hcl (L_spec_ValidGeometry a_0.Geo h_y1)]
  rotate_left
  · show _ = _; kernel_rfl
  · show _ = _; kernel_rfl
  conv => lhs; whnf
  cases hb2 : y1
  · replace h := ifF h (booF hb2); conv => lhs; whnf
    try (rw [hb2]; conv => lhs; whnf)
    try (rw [hb2]; conv => lhs; whnf)
    try (rw [hb2]; conv => lhs; whnf)
    try (rw [hb2]; conv => lhs; whnf)
    try (rw [hb2]; conv => lhs; whnf)
    try (rw [hb2]; conv => lhs; whnf)
    try (rw [hb2]; conv => lhs; whnf)
    try (rw [hb2]; conv => lhs; whnf)
    try (rw [hb2]; conv => lhs; whnf)
    try (rw [hb2]; conv => lhs; whnf)
    try (rw [hb2]; conv => lhs; whnf)
    obtain rfl := Option.some.inj h; show _ = _; kernel_rfl

  · replace h := ifT h hb2
    try rw [hb2] at h
    conv => lhs; whnf
    try (rw [hb2]; conv => lhs; whnf)
    try (rw [hb2]; conv => lhs; whnf)
    try rw [len_of (l := a_0.Blocks) (r := rBlock)]
    try (rw [hb2]; conv => lhs; whnf)
    try (rw [hb2]; conv => lhs; whnf)
    try (rw [hb2]; conv => lhs; whnf)
    try (rw [hb2]; conv => lhs; whnf)
    try (rw [hb2]; conv => lhs; whnf)
    try (rw [hb2]; conv => lhs; whnf)
    try (rw [hb2]; conv => lhs; whnf)
    try (rw [hb2]; conv => lhs; whnf)
    try (rw [hb2]; conv => lhs; whnf)
    cases hb3 : ((a_0.Blocks.length : Int) != (IntKind.i64.wrap (a_0.Geo.Dies * a_0.Geo.Blocks)))
    · replace h := ifF h ((fun h => not_not_intro (bneF h)) hb3); conv => lhs; whnf
      try (rw [hb3]; conv => lhs; whnf)
      try (rw [hb3]; conv => lhs; whnf)
      rw [cl_eq hcl (L_spec_l00In a_0.Fuse (-1) 1000000 (pl_l00In a_0.Fuse (-1) 1000000))]
      rotate_left
      · show _ = _; kernel_rfl
      · show _ = _; kernel_rfl
      conv => lhs; whnf
      try (rw [hb3]; conv => lhs; whnf)
      try (rw [hb3]; conv => lhs; whnf)
      cases hb4 : (inR a_0.Fuse (-1) 1000000)
      · replace h := ifF h (booF hb4); conv => lhs; whnf
        try (rw [hb4]; conv => lhs; whnf)
        try (rw [hb4]; conv => lhs; whnf)
        try (rw [hb4]; conv => lhs; whnf)
        try (rw [hb4]; conv => lhs; whnf)
        obtain rfl := Option.some.inj h; show _ = _; kernel_rfl

      · replace h := ifT h hb4; conv => lhs; whnf
        try (rw [hb4]; conv => lhs; whnf)
        try (rw [hb4]; conv => lhs; whnf)
        rw [cl_eq hcl (L_spec_l00In a_0.Keep 0 91 (pl_l00In a_0.Keep 0 91))]
        rotate_left
        · show _ = _; kernel_rfl
        · show _ = _; kernel_rfl
        conv => lhs; whnf
        try (rw [hb4]; conv => lhs; whnf)
        try (rw [hb4]; conv => lhs; whnf)
        cases hb5 : (inR a_0.Keep 0 91)
        · replace h := ifF h (booF hb5); conv => lhs; whnf
          try (rw [hb5]; conv => lhs; whnf)
          try (rw [hb5]; conv => lhs; whnf)
          try (rw [hb5]; conv => lhs; whnf)
          obtain rfl := Option.some.inj h; show _ = _; kernel_rfl

        · replace h := ifT h hb5; conv => lhs; whnf
          try (rw [hb5]; conv => lhs; whnf)
          try (rw [hb5]; conv => lhs; whnf)
          try (rw [hb5]; conv => lhs; whnf)
          cases hb6 : (decide (a_0.Ops < 0))
          · replace h := ifF h (decF hb6); conv => lhs; whnf
            obtain ⟨hl_i12, h⟩ := grd_inv h
            refine loop_for hlp (l := a_0.Blocks) hl_i12 (fun (i12 : Nat) (_ : Unit) => ([.dead, .bp 0 0, .dead, IN (i12 : Int)] ++ List.replicate 51 .dead : List V)) (fun (i12 : Nat) (_ : Unit) => ([some (.box [IN a_0.Geo.Dies, IN a_0.Geo.Blocks, IN a_0.Geo.Pages, .d (.arr (a_0.Blocks.map rBlock)), IN a_0.Fuse, IN a_0.Keep, BO a_0.Off, IN a_0.Ops])] : Fo)) (fun (r : Bool) => ((BO r : V), ([] : Fo))) ?_ ?_ () _ (fun kk => by kernel_rfl) h
            · clear h
              rintro next_nx13 nx13 i12 hi_i12 hnx13 ⟨⟩ r h
              try dsimp only at h
              have hn_i12 : i12 < 4611686018427387904 := by omega
              have hx_x14 := get_map rBlock a_0.Blocks i12 hi_i12
              generalize a_0.Blocks[i12] = x14 at h hx_x14
              have hd_i12 : (decide ((i12 : Int) < (a_0.Blocks.length : Int))) = true := decide_eq_true (by omega)
              conv => lhs; whnf
              try rw [len_of (l := a_0.Blocks) (r := rBlock)]
              try (first | rw [hd_i12] | (split; (first | (rename_i hx; exact absurd (hd_i12.symm.trans hx) (by decide)) | (rotate_left; rename_i hx; exact absurd (hd_i12.symm.trans hx) (by decide)))))
              conv => lhs; whnf
              try (rw [decide_eq_true hq_x14]; conv => lhs; whnf)
              rw [hx_x14]
              conv => lhs; whnf
              rw [hx_x14]
              conv => lhs; whnf
              obtain ⟨y15, h_y15, h⟩ := callK_inv h
              rw [cl_eq hcl (L_spec_l06Block x14 a_0.Geo.Pages h_y15)]
              rotate_left
              · show _ = _; kernel_rfl
              · show _ = _; kernel_rfl
              conv => lhs; whnf
              cases hb16 : y15
              · replace h := ifF h (booF hb16); conv => lhs; whnf
                obtain rfl := Option.some.inj h; show _ = _; kernel_rfl

              · replace h := ifT h hb16; conv => lhs; whnf
                rw [wrap_nat i12 (by have := hn_i12; omega)]
                exact hnx13 _ _ _ _ (fun kk => by kernel_rfl) h
            · clear h
              rintro next_nx13 ⟨⟩ r h
              try dsimp only at h
              have hd_i12 : (decide ((a_0.Blocks.length : Int) < (a_0.Blocks.length : Int))) = false := decide_eq_false (by omega)
              conv => lhs; whnf
              try rw [len_of (l := a_0.Blocks) (r := rBlock)]
              try (first | rw [hd_i12] | (split; (first | (rename_i hx; exact absurd (hd_i12.symm.trans hx) (by decide)) | (rotate_left; rename_i hx; exact absurd (hd_i12.symm.trans hx) (by decide)))))
              conv => lhs; whnf
              obtain rfl := Option.some.inj h; show _ = _; kernel_rfl

          · replace h := ifT h (decT hb6); conv => lhs; whnf
            obtain rfl := Option.some.inj h; show _ = _; kernel_rfl

    · replace h := ifT h (bneT hb3); conv => lhs; whnf
      try (rw [hb3]; conv => lhs; whnf)
      try (rw [hb3]; conv => lhs; whnf)
      try (rw [hb3]; conv => lhs; whnf)
      try (rw [hb3]; conv => lhs; whnf)
      obtain rfl := Option.some.inj h; show _ = _; kernel_rfl


noncomputable def p_spec_l06Own (a_0 : Flash) : Option (List Block) :=
  grd (a_0.Blocks.length < 4611686018427387904) <|
  forK a_0.Blocks (fun (i5 : Nat) x8 (v6 : List Block) (nx7 : (List Block) → Option _) =>
    grd (appOk (0 + x8.Pages.length) 16 = true) <|
    grd (appOk (v6.length + 1) 48 = true) <|
    nx7 (v6 ++ ([x8] : List Block))) ([] : List Block) (fun (v6 : List Block) =>
    some v6)

set_option maxHeartbeats 4000000 in
theorem L_spec_l06Own (a_0 : Flash) {r : (List Block)} (h : p_spec_l06Own a_0 = some r) : callL E 159 [.agg [IN a_0.Geo.Dies, IN a_0.Geo.Blocks, IN a_0.Geo.Pages, .d (.arr (a_0.Blocks.map rBlock)), IN a_0.Fuse, IN a_0.Keep, BO a_0.Off, IN a_0.Ops]] ([] : Fo) = some (.agg [IN a_0.Geo.Dies, IN a_0.Geo.Blocks, IN a_0.Geo.Pages, .nsl 0, IN a_0.Fuse, IN a_0.Keep, BO a_0.Off, IN a_0.Ops], ([some (.nst ⟨91, 4, 3, 9, 1⟩ r.length (r.map rBlock))] : Fo)) := by
  unfold p_spec_l06Own at h
  refine callW (fu := Try.f159) rfl rfl rfl NN ?_
  intro lp cl hlp hcl
  conv => lhs; whnf
  obtain ⟨hl_i5, h⟩ := grd_inv h
  refine loop_for hlp (l := a_0.Blocks) hl_i5 (fun (i5 : Nat) (v6 : List Block) => ([.dead, .bp 0 0, .bp 1 0, .bp 2 0, IN (i5 : Int)] ++ List.replicate 28 .dead : List V)) (fun (i5 : Nat) (v6 : List Block) => ([some (.box [IN a_0.Geo.Dies, IN a_0.Geo.Blocks, IN a_0.Geo.Pages, .d (.arr (a_0.Blocks.map rBlock)), IN a_0.Fuse, IN a_0.Keep, BO a_0.Off, IN a_0.Ops]), some (.box [IN 0, IN 0, IN 0, .d (.arr (([] : List Block).map rBlock)), IN 0, IN 0, BO false, IN 0]), some (.box [IN a_0.Geo.Dies, IN a_0.Geo.Blocks, IN a_0.Geo.Pages, .nsl 3, IN a_0.Fuse, IN a_0.Keep, BO a_0.Off, IN a_0.Ops]), some (.nst ⟨91, 4, 3, 9, 1⟩ v6.length (v6.map rBlock))] : Fo)) (fun (r : (List Block)) => ((.agg [IN a_0.Geo.Dies, IN a_0.Geo.Blocks, IN a_0.Geo.Pages, .nsl 0, IN a_0.Fuse, IN a_0.Keep, BO a_0.Off, IN a_0.Ops] : V), ([some (.nst ⟨91, 4, 3, 9, 1⟩ r.length (r.map rBlock))] : Fo))) ?_ ?_ ([] : List Block) _ (fun kk => by kernel_rfl) h
  · clear h
    rintro next_nx7 nx7 i5 hi_i5 hnx7 v6 r h
    try dsimp only at h
    have hn_i5 : i5 < 4611686018427387904 := by omega
    have hx_x8 := get_map rBlock a_0.Blocks i5 hi_i5
    generalize a_0.Blocks[i5] = x8 at h hx_x8
    have hd_i5 : (decide ((i5 : Int) < (a_0.Blocks.length : Int))) = true := decide_eq_true (by omega)
    conv => lhs; whnf
    try rw [len_of (l := a_0.Blocks) (r := rBlock)]
    try (first | rw [hd_i5] | (split; (first | (rename_i hx; exact absurd (hd_i5.symm.trans hx) (by decide)) | (rotate_left; rename_i hx; exact absurd (hd_i5.symm.trans hx) (by decide)))))
    conv => lhs; whnf
    try (rw [decide_eq_true hq_x8]; conv => lhs; whnf)
    rw [hx_x8]
    conv => lhs; whnf
    rw [hx_x8]
    conv => lhs; whnf
    obtain ⟨hg9, h⟩ := grd_inv h
    rw [app_eq hg9 ?h1 ?h2]
    case h1 => first | exact rfl | (simp only [List.length_map, List.length_cons, List.length_nil]; done) | (rw [List.length_map]; rfl)
    case h2 => exact rfl
    conv => lhs; whnf
    rw [allLen_map rS _ rS_len]
    conv => lhs; whnf
    first | (rw [nil_app_of (r := rS) (m := x8.Pages) ?hh]; case hh => exact rfl) | skip
    conv => lhs; whnf
    try (rw [beq_len (n := v6.length) (l := v6) (by simp only [List.length_set, List.length_append, List.length_cons, List.length_nil, Nat.zero_add])]; conv => lhs; whnf)
    obtain ⟨hg10, h⟩ := grd_inv h
    rw [app_eq hg10 ?h1 ?h2]
    case h1 => first | exact rfl | (rw [List.length_map]; done) | (rw [List.length_map]; rfl)
    case h2 => exact rfl
    conv => lhs; whnf
    first | (rw [map_app_of (r := rBlock) (l := v6) (m := ([x8] : List Block)) ?hh]; case hh => exact rfl) | skip
    rw [wrap_nat i5 (by have := hn_i5; omega)]
    exact hnx7 _ _ _ _ (fun kk => by (try simp only [List.length_set, List.length_append, List.length_cons, List.length_nil, Nat.zero_add]); kernel_rfl) h
  · clear h
    rintro next_nx7 v6 r h
    try dsimp only at h
    have hd_i5 : (decide ((a_0.Blocks.length : Int) < (a_0.Blocks.length : Int))) = false := decide_eq_false (by omega)
    conv => lhs; whnf
    try rw [len_of (l := a_0.Blocks) (r := rBlock)]
    try (first | rw [hd_i5] | (split; (first | (rename_i hx; exact absurd (hd_i5.symm.trans hx) (by decide)) | (rotate_left; rename_i hx; exact absurd (hd_i5.symm.trans hx) (by decide)))))
    conv => lhs; whnf
    obtain rfl := Option.some.inj h; show _ = _; kernel_rfl


noncomputable def p_spec_l06HasBlock (a_0 : Flash) (a_1 : Int) : Option Bool :=
  some (inR a_1 0 (IntKind.i64.wrap ((a_0.Blocks.length : Int) - 1)))

set_option maxHeartbeats 4000000 in
theorem L_spec_l06HasBlock (a_0 : Flash) (a_1 : Int) {r : Bool} (h : p_spec_l06HasBlock a_0 a_1 = some r) : callL E 282 [.agg [IN a_0.Geo.Dies, IN a_0.Geo.Blocks, IN a_0.Geo.Pages, .d (.arr (a_0.Blocks.map rBlock)), IN a_0.Fuse, IN a_0.Keep, BO a_0.Off, IN a_0.Ops], IN a_1] ([] : Fo) = some (BO r, ([] : Fo)) := by
  unfold p_spec_l06HasBlock at h
  refine callW (fu := Try.f282) rfl rfl rfl NN ?_
  intro lp cl hlp hcl
  conv => lhs; whnf
  try rw [len_of (l := a_0.Blocks) (r := rBlock)]
  rw [cl_eq hcl (L_spec_l00In a_1 0 (IntKind.i64.wrap ((a_0.Blocks.length : Int) - 1)) (pl_l00In a_1 0 (IntKind.i64.wrap ((a_0.Blocks.length : Int) - 1))))]
  rotate_left
  · show _ = _; kernel_rfl
  · show _ = _; kernel_rfl
  conv => lhs; whnf
  obtain rfl := Option.some.inj h; show _ = _; kernel_rfl


noncomputable def p_spec_l06HasPage (a_0 : Flash) (a_1 : Int) (a_2 : Int) : Option Bool :=
  callK (p_spec_l06HasBlock a_0 a_1) fun y1 =>
  if y1 = true then
    some (inR a_2 0 (IntKind.i64.wrap (a_0.Geo.Pages - 1)))
  else
    some false

set_option maxHeartbeats 4000000 in
theorem L_spec_l06HasPage (a_0 : Flash) (a_1 : Int) (a_2 : Int) {r : Bool} (h : p_spec_l06HasPage a_0 a_1 a_2 = some r) : callL E 279 [.agg [IN a_0.Geo.Dies, IN a_0.Geo.Blocks, IN a_0.Geo.Pages, .d (.arr (a_0.Blocks.map rBlock)), IN a_0.Fuse, IN a_0.Keep, BO a_0.Off, IN a_0.Ops], IN a_1, IN a_2] ([] : Fo) = some (BO r, ([] : Fo)) := by
  unfold p_spec_l06HasPage at h
  refine callW (fu := Try.f279) rfl rfl rfl NN ?_
  intro lp cl hlp hcl
  conv => lhs; whnf
  obtain ⟨y1, h_y1, h⟩ := callK_inv h
  rw [cl_eq hcl (L_spec_l06HasBlock a_0 a_1 h_y1)]
  rotate_left
  · show _ = _; kernel_rfl
  · show _ = _; kernel_rfl
  conv => lhs; whnf
  cases hb2 : y1
  · replace h := ifF h (booF hb2); conv => lhs; whnf
    try (rw [hb2]; conv => lhs; whnf)
    try (rw [hb2]; conv => lhs; whnf)
    try (rw [hb2]; conv => lhs; whnf)
    try (rw [hb2]; conv => lhs; whnf)
    try (rw [hb2]; conv => lhs; whnf)
    try (rw [hb2]; conv => lhs; whnf)
    obtain rfl := Option.some.inj h; show _ = _; kernel_rfl

  · replace h := ifT h hb2; conv => lhs; whnf
    try (rw [hb2]; conv => lhs; whnf)
    try (rw [hb2]; conv => lhs; whnf)
    try (rw [hb2]; conv => lhs; whnf)
    try (rw [hb2]; conv => lhs; whnf)
    try (rw [hb2]; conv => lhs; whnf)
    rw [cl_eq hcl (L_spec_l00In a_2 0 (IntKind.i64.wrap (a_0.Geo.Pages - 1)) (pl_l00In a_2 0 (IntKind.i64.wrap (a_0.Geo.Pages - 1))))]
    rotate_left
    · show _ = _; kernel_rfl
    · show _ = _; kernel_rfl
    conv => lhs; whnf
    try (rw [hb2]; conv => lhs; whnf)
    obtain rfl := Option.some.inj h; show _ = _; kernel_rfl


noncomputable def p_spec_l06Tick (a_0 : Int) (a_1 : Int) (a_2 : Int) (a_3 : Int) (a_4 : Int) (a_5 : Bool) (a_6 : Int) (a_7 : List Block) : Option (Bool × Int × Bool × Int) :=
  if a_3 = 0 then
    some (true, (-1), true, (IntKind.i64.wrap (a_6 + 1)))
  else
    if a_3 > 0 then
      some (false, (IntKind.i64.wrap (a_3 - 1)), a_5, (IntKind.i64.wrap (a_6 + 1)))
    else
      some (false, a_3, a_5, (IntKind.i64.wrap (a_6 + 1)))

set_option maxHeartbeats 4000000 in
theorem L_spec_l06Tick (a_0 : Int) (a_1 : Int) (a_2 : Int) (a_3 : Int) (a_4 : Int) (a_5 : Bool) (a_6 : Int) (a_7 : List Block) {r : (Bool × Int × Bool × Int)} (h : p_spec_l06Tick a_0 a_1 a_2 a_3 a_4 a_5 a_6 a_7 = some r) : callL E 257 [.bp 0 0] ([some (.box [IN a_0, IN a_1, IN a_2, .nsl 1, IN a_3, IN a_4, BO a_5, IN a_6]), some (.nst ⟨91, 4, 3, 9, 1⟩ a_7.length (a_7.map rBlock))] : Fo) = some (BO r.1, ([some (.box [IN a_0, IN a_1, IN a_2, .nsl 1, IN r.2.1, IN a_4, BO r.2.2.1, IN r.2.2.2]), some (.nst ⟨91, 4, 3, 9, 1⟩ a_7.length (a_7.map rBlock))] : Fo)) := by
  unfold p_spec_l06Tick at h
  refine callW (fu := Try.f257) rfl rfl rfl NN ?_
  intro lp cl hlp hcl
  conv => lhs; whnf
  cases hb1 : (a_3 == 0)
  · replace h := ifF h (beqF hb1); conv => lhs; whnf
    cases hb2 : (decide (a_3 > 0))
    · replace h := ifF h (decF hb2); conv => lhs; whnf
      obtain rfl := Option.some.inj h; show _ = _; kernel_rfl

    · replace h := ifT h (decT hb2); conv => lhs; whnf
      obtain rfl := Option.some.inj h; show _ = _; kernel_rfl

  · replace h := ifT h (beqT hb1); conv => lhs; whnf
    obtain rfl := Option.some.inj h; show _ = _; kernel_rfl


noncomputable def p_spec_l05Fill (a_0 : Int) (a_1 : Int) : Option ByteArray :=
  grd (a_1 < 4611686018427387904) <|
  forI a_1 (fun (i4 : Nat) (v5 : List Int) (nx6 : (List Int) → Option _) =>
    grd (appOk (v5.length + 1) 1 = true) <|
    nx6 (v5 ++ ([a_0] : List Int))) ([] : List Int) (fun (v5 : List Int) =>
    some (bytesOf (v5.map rU)))

set_option maxHeartbeats 4000000 in
theorem L_spec_l05Fill (a_0 : Int) (a_1 : Int) {r : ByteArray} (h : p_spec_l05Fill a_0 a_1 = some r) : callL E 281 [.d (.lit (.int .u8 a_0)), IN a_1] ([] : Fo) = some (ST r, ([] : Fo)) := by
  unfold p_spec_l05Fill at h
  refine callW (fu := Try.f281) rfl rfl rfl NN ?_
  intro lp cl hlp hcl
  conv => lhs; whnf
  obtain ⟨hl_i4, h⟩ := grd_inv h
  refine loop_forI hlp (n := a_1) hl_i4 (fun (i4 : Nat) (v5 : List Int) => ([.d (.lit (.int .u8 a_0)), IN a_1, .dead, .dead, .dead, .sl 0, IN (i4 : Int)] ++ List.replicate 12 .dead : List V)) (fun (i4 : Nat) (v5 : List Int) => ([some (.arr 5 1 (v5.map rU))] : Fo)) (fun (r : ByteArray) => ((ST r : V), ([] : Fo))) ?_ ?_ ([] : List Int) _ (fun kk => by kernel_rfl) h
  · clear h
    rintro next_nx6 nx6 i4 hi_i4 hnx6 v5 r h
    try dsimp only at h
    have hn_i4 : i4 < 4611686018427387904 := by omega
    have hd_i4 : (decide ((i4 : Int) < a_1)) = true := decide_eq_true (by omega)
    conv => lhs; whnf
    try (first | rw [hd_i4] | (split; (first | (rename_i hx; exact absurd (hd_i4.symm.trans hx) (by decide)) | (rotate_left; rename_i hx; exact absurd (hd_i4.symm.trans hx) (by decide)))))
    conv => lhs; whnf
    obtain ⟨hg7, h⟩ := grd_inv h
    rw [app_eq hg7 ?h1 ?h2]
    case h1 => first | exact rfl | (simp only [List.length_map, List.length_cons, List.length_nil]; done) | (rw [List.length_map]; rfl)
    case h2 => exact rfl
    conv => lhs; whnf
    first | (rw [map_app_of (r := rU) (l := v5) (m := ([a_0] : List Int)) ?hh]; case hh => exact rfl) | skip
    rw [wrap_nat i4 (by have := hn_i4; omega)]
    exact hnx6 _ _ _ _ (fun kk => by kernel_rfl) h
  · clear h
    rintro next_nx6 v5 r h
    try dsimp only at h
    have hd_i4 : (decide (((Int.toNat a_1) : Int) < a_1)) = false := decide_eq_false (by omega)
    conv => lhs; whnf
    try (first | rw [hd_i4] | (split; (first | (rename_i hx; exact absurd (hd_i4.symm.trans hx) (by decide)) | (rotate_left; rename_i hx; exact absurd (hd_i4.symm.trans hx) (by decide)))))
    conv => lhs; whnf
    try rw [byteRows_rU]
    conv => lhs; whnf
    obtain rfl := Option.some.inj h; show _ = _; kernel_rfl


noncomputable def p_spec_l05Torn (a_0 : ByteArray) (a_1 : Int) : Option ByteArray :=
  grd (0 ≤ 0 ∧ 0 ≤ a_1 ∧ a_1 ≤ (ByteArray.size a_0 : Int)) <|
  callK (p_spec_l05Fill 255 (IntKind.i64.wrap (91 - a_1))) fun y1 =>
  grd (((ByteArray.size (ByteArray.extract a_0 (Int.toNat 0) (Int.toNat a_1)) + ByteArray.size y1 : Nat) : Int) ≤ 9223372036854775807) <|
  some ((ByteArray.extract a_0 (Int.toNat 0) (Int.toNat a_1)) ++ y1)

set_option maxHeartbeats 4000000 in
theorem L_spec_l05Torn (a_0 : ByteArray) (a_1 : Int) {r : ByteArray} (h : p_spec_l05Torn a_0 a_1 = some r) : callL E 239 [ST a_0, IN a_1] ([] : Fo) = some (ST r, ([] : Fo)) := by
  unfold p_spec_l05Torn at h
  refine callW (fu := Try.f239) rfl rfl rfl NN ?_
  intro lp cl hlp hcl
  conv => lhs; whnf
  obtain ⟨hg2, h⟩ := grd_inv h
  try (rw [decide_eq_true hg2.1]; conv => lhs; whnf)
  try (rw [decide_eq_true hg2.2.1]; conv => lhs; whnf)
  try (rw [decide_eq_true hg2.2.2])
  conv => lhs; whnf
  obtain ⟨y1, h_y1, h⟩ := callK_inv h
  rw [cl_eq hcl (L_spec_l05Fill 255 (IntKind.i64.wrap (91 - a_1)) h_y1)]
  rotate_left
  · show _ = _; kernel_rfl
  · show _ = _; kernel_rfl
  conv => lhs; whnf
  obtain ⟨hg3, h⟩ := grd_inv h
  rw [cat_run _ _ _ hg3]
  conv => lhs; whnf
  obtain rfl := Option.some.inj h; show _ = _; kernel_rfl


noncomputable def p_spec_DestroyedPage  : Option ByteArray :=
  callK (p_spec_l05Fill 0 91) fun y1 =>
  some y1

set_option maxHeartbeats 4000000 in
theorem L_spec_DestroyedPage  {r : ByteArray} (h : p_spec_DestroyedPage  = some r) : callL E 210 [] ([] : Fo) = some (ST r, ([] : Fo)) := by
  unfold p_spec_DestroyedPage at h
  refine callW (fu := Try.f210) rfl rfl rfl NN ?_
  intro lp cl hlp hcl
  conv => lhs; whnf
  obtain ⟨y1, h_y1, h⟩ := callK_inv h
  rw [cl_eq hcl (L_spec_l05Fill 0 91 h_y1)]
  rotate_left
  · show _ = _; kernel_rfl
  · show _ = _; kernel_rfl
  conv => lhs; whnf
  obtain rfl := Option.some.inj h; show _ = _; kernel_rfl


noncomputable def p_spec_l06Program (a_0 : Int) (a_1 : ByteArray) (a_2 : Int) (a_3 : Int) (a_4 : Int) (a_5 : Int) (a_6 : Int) (a_7 : Bool) (a_8 : Int) (a_9 : List Block) : Option (Int × Int × Bool × Int × (List Block)) :=
  getK a_9 a_0 fun x1 =>
  callK (p_spec_l06Tick a_2 a_3 a_4 a_5 a_6 a_7 a_8 a_9) fun y2 =>
  if y2.1 = true then
    if a_6 = 0 then
      some (8, y2.2.1, y2.2.2.1, y2.2.2.2, a_9)
    else
      callK (p_spec_l05Torn a_1 a_6) fun y5 =>
      getK x1.Pages x1.Next fun x6 =>
      getN (a_9.set (Int.toNat a_0) (⟨x1.Erases, x1.Next, x1.Bad, (x1.Pages.set (Int.toNat x1.Next) y5)⟩ : Block)) (Int.toNat a_0) fun x7 =>
      if (Int.tmod x7.Next 2) = 1 then
        if a_6 < 91 then
          callK (p_spec_DestroyedPage ) fun y10 =>
          getK x7.Pages (IntKind.i64.wrap (x7.Next - 1)) fun x11 =>
          getN ((a_9.set (Int.toNat a_0) (⟨x1.Erases, x1.Next, x1.Bad, (x1.Pages.set (Int.toNat x1.Next) y5)⟩ : Block)).set (Int.toNat a_0) (⟨x7.Erases, x7.Next, x7.Bad, (x7.Pages.set (Int.toNat (IntKind.i64.wrap (x7.Next - 1))) y10)⟩ : Block)) (Int.toNat a_0) fun x12 =>
          some (8, y2.2.1, y2.2.2.1, y2.2.2.2, (((a_9.set (Int.toNat a_0) (⟨x1.Erases, x1.Next, x1.Bad, (x1.Pages.set (Int.toNat x1.Next) y5)⟩ : Block)).set (Int.toNat a_0) (⟨x7.Erases, x7.Next, x7.Bad, (x7.Pages.set (Int.toNat (IntKind.i64.wrap (x7.Next - 1))) y10)⟩ : Block)).set (Int.toNat a_0) (⟨x12.Erases, (IntKind.i64.wrap (x12.Next + 1)), x12.Bad, x12.Pages⟩ : Block)))
        else
          some (8, y2.2.1, y2.2.2.1, y2.2.2.2, ((a_9.set (Int.toNat a_0) (⟨x1.Erases, x1.Next, x1.Bad, (x1.Pages.set (Int.toNat x1.Next) y5)⟩ : Block)).set (Int.toNat a_0) (⟨x7.Erases, (IntKind.i64.wrap (x7.Next + 1)), x7.Bad, x7.Pages⟩ : Block)))
      else
        some (8, y2.2.1, y2.2.2.1, y2.2.2.2, ((a_9.set (Int.toNat a_0) (⟨x1.Erases, x1.Next, x1.Bad, (x1.Pages.set (Int.toNat x1.Next) y5)⟩ : Block)).set (Int.toNat a_0) (⟨x7.Erases, (IntKind.i64.wrap (x7.Next + 1)), x7.Bad, x7.Pages⟩ : Block)))
  else
    getK x1.Pages x1.Next fun x13 =>
    getN (a_9.set (Int.toNat a_0) (⟨x1.Erases, x1.Next, x1.Bad, (x1.Pages.set (Int.toNat x1.Next) a_1)⟩ : Block)) (Int.toNat a_0) fun x14 =>
    some (0, y2.2.1, y2.2.2.1, y2.2.2.2, ((a_9.set (Int.toNat a_0) (⟨x1.Erases, x1.Next, x1.Bad, (x1.Pages.set (Int.toNat x1.Next) a_1)⟩ : Block)).set (Int.toNat a_0) (⟨x14.Erases, (IntKind.i64.wrap (x14.Next + 1)), x14.Bad, x14.Pages⟩ : Block)))

set_option maxHeartbeats 4000000 in
theorem L_spec_l06Program (a_0 : Int) (a_1 : ByteArray) (a_2 : Int) (a_3 : Int) (a_4 : Int) (a_5 : Int) (a_6 : Int) (a_7 : Bool) (a_8 : Int) (a_9 : List Block) {r : (Int × Int × Bool × Int × (List Block))} (h : p_spec_l06Program a_0 a_1 a_2 a_3 a_4 a_5 a_6 a_7 a_8 a_9 = some r) : callL E 280 [.bp 0 0, IN a_0, ST a_1] ([some (.box [IN a_2, IN a_3, IN a_4, .nsl 1, IN a_5, IN a_6, BO a_7, IN a_8]), some (.nst ⟨91, 4, 3, 9, 1⟩ a_9.length (a_9.map rBlock))] : Fo) = some (IN r.1, ([some (.box [IN a_2, IN a_3, IN a_4, .nsl 1, IN r.2.1, IN a_6, BO r.2.2.1, IN r.2.2.2.1]), some (.nst ⟨91, 4, 3, 9, 1⟩ r.2.2.2.2.length (r.2.2.2.2.map rBlock))] : Fo)) := by
  unfold p_spec_l06Program at h
  refine callW (fu := Try.f280) rfl rfl rfl NN ?_
  intro lp cl hlp hcl
  conv => lhs; whnf
  obtain ⟨x1, hq_x1, hx_x1', h⟩ := getK_inv h
  have hx_x1 := get_of (r := rBlock) hx_x1'
  try (rw [decide_eq_true hq_x1]; conv => lhs; whnf)
  rw [hx_x1]
  conv => lhs; whnf
  obtain ⟨y2, h_y2, h⟩ := callK_inv h
  rw [cl_eq hcl (L_spec_l06Tick a_2 a_3 a_4 a_5 a_6 a_7 a_8 a_9 h_y2)]
  rotate_left
  · show _ = _; kernel_rfl
  · show _ = _; kernel_rfl
  conv => lhs; whnf
  cases hb3 : y2.1
  · replace h := ifF h (booF hb3); conv => lhs; whnf
    rw [hx_x1]
    conv => lhs; whnf
    conv => lhs; whnf
    try (rw [blt_of_len (n := a_9.length) hx_x1 (by simp only [List.length_set, List.length_append, List.length_cons, List.length_nil, Nat.zero_add])]; conv => lhs; whnf)
    rw [hx_x1]
    conv => lhs; whnf
    rw [hx_x1]
    conv => lhs; whnf
    obtain ⟨x13, hq_x13, hx_x13', h⟩ := getK_inv h
    have hx_x13 := get_of (r := rS) hx_x13'
    try (rw [decide_eq_true hq_x13]; conv => lhs; whnf)
    rw [hx_x13]
    conv => lhs; whnf
    rw [hx_x1]
    conv => lhs; whnf
    rw [hx_x13]
    conv => lhs; whnf
    first | (rw [map_set_of (r := rS) (l := x1.Pages) (x := a_1) ?hh]; case hh => exact rfl) | skip
    first | (rw [map_set_of (r := rBlock) (l := a_9) (x := (⟨x1.Erases, x1.Next, x1.Bad, (x1.Pages.set (Int.toNat x1.Next) a_1)⟩ : Block)) ?hh]; case hh => exact rfl) | skip
    obtain ⟨x14, hx_x14', h⟩ := getN_inv h
    have hx_x14 := get_of (r := rBlock) hx_x14'
    rw [hx_x14]
    conv => lhs; whnf
    rw [hx_x14]
    conv => lhs; whnf
    first | (rw [map_set_of (r := rBlock) (l := (a_9.set (Int.toNat a_0) (⟨x1.Erases, x1.Next, x1.Bad, (x1.Pages.set (Int.toNat x1.Next) a_1)⟩ : Block))) (x := (⟨x14.Erases, (IntKind.i64.wrap (x14.Next + 1)), x14.Bad, x14.Pages⟩ : Block)) ?hh]; case hh => exact rfl) | skip
    obtain rfl := Option.some.inj h
    try (conv => rhs; simp only [List.length_set, List.length_append, List.length_cons, List.length_nil, Nat.zero_add])
    try simp only [List.length_set]
    show _ = _; kernel_rfl
  · replace h := ifT h hb3; conv => lhs; whnf
    cases hb4 : (a_6 == 0)
    · replace h := ifF h (beqF hb4); conv => lhs; whnf
      rw [hx_x1]
      conv => lhs; whnf
      conv => lhs; whnf
      try (rw [blt_of_len (n := a_9.length) hx_x1 (by simp only [List.length_set, List.length_append, List.length_cons, List.length_nil, Nat.zero_add])]; conv => lhs; whnf)
      rw [hx_x1]
      conv => lhs; whnf
      obtain ⟨y5, h_y5, h⟩ := callK_inv h
      rw [cl_eq hcl (L_spec_l05Torn a_1 a_6 h_y5)]
      rotate_left
      · show _ = _; kernel_rfl
      · show _ = _; kernel_rfl
      conv => lhs; whnf
      rw [hx_x1]
      conv => lhs; whnf
      obtain ⟨x6, hq_x6, hx_x6', h⟩ := getK_inv h
      have hx_x6 := get_of (r := rS) hx_x6'
      try (rw [decide_eq_true hq_x6]; conv => lhs; whnf)
      rw [hx_x6]
      conv => lhs; whnf
      rw [hx_x1]
      conv => lhs; whnf
      rw [hx_x6]
      conv => lhs; whnf
      first | (rw [map_set_of (r := rS) (l := x1.Pages) (x := y5) ?hh]; case hh => exact rfl) | skip
      first | (rw [map_set_of (r := rBlock) (l := a_9) (x := (⟨x1.Erases, x1.Next, x1.Bad, (x1.Pages.set (Int.toNat x1.Next) y5)⟩ : Block)) ?hh]; case hh => exact rfl) | skip
      obtain ⟨x7, hx_x7', h⟩ := getN_inv h
      have hx_x7 := get_of (r := rBlock) hx_x7'
      rw [hx_x7]
      conv => lhs; whnf
      try (rw [rem_run _ _ _ 2 (by decide)]; conv => lhs; whnf)
      conv => lhs; whnf
      cases hb8 : ((Int.tmod x7.Next 2) == 1)
      · replace h := ifF h (beqF hb8); conv => lhs; whnf
        try (rw [hb8]; conv => lhs; whnf)
        try (rw [hb8]; conv => lhs; whnf)
        try (rw [hb8]; conv => lhs; whnf)
        try (rw [hb8]; conv => lhs; whnf)
        try (rw [hb8]; conv => lhs; whnf)
        rw [hx_x7]
        conv => lhs; whnf
        rw [hx_x7]
        conv => lhs; whnf
        first | (rw [map_set_of (r := rBlock) (l := (a_9.set (Int.toNat a_0) (⟨x1.Erases, x1.Next, x1.Bad, (x1.Pages.set (Int.toNat x1.Next) y5)⟩ : Block))) (x := (⟨x7.Erases, (IntKind.i64.wrap (x7.Next + 1)), x7.Bad, x7.Pages⟩ : Block)) ?hh]; case hh => exact rfl) | skip
        obtain rfl := Option.some.inj h
        try (conv => rhs; simp only [List.length_set, List.length_append, List.length_cons, List.length_nil, Nat.zero_add])
        try simp only [List.length_set]
        show _ = _; kernel_rfl
      · replace h := ifT h (beqT hb8); conv => lhs; whnf
        try (rw [hb8]; conv => lhs; whnf)
        try (rw [hb8]; conv => lhs; whnf)
        try (rw [hb8]; conv => lhs; whnf)
        try (rw [hb8]; conv => lhs; whnf)
        try (rw [hb8]; conv => lhs; whnf)
        cases hb9 : (decide (a_6 < 91))
        · replace h := ifF h (decF hb9); conv => lhs; whnf
          rw [hx_x7]
          conv => lhs; whnf
          rw [hx_x7]
          conv => lhs; whnf
          first | (rw [map_set_of (r := rBlock) (l := (a_9.set (Int.toNat a_0) (⟨x1.Erases, x1.Next, x1.Bad, (x1.Pages.set (Int.toNat x1.Next) y5)⟩ : Block))) (x := (⟨x7.Erases, (IntKind.i64.wrap (x7.Next + 1)), x7.Bad, x7.Pages⟩ : Block)) ?hh]; case hh => exact rfl) | skip
          obtain rfl := Option.some.inj h
          try (conv => rhs; simp only [List.length_set, List.length_append, List.length_cons, List.length_nil, Nat.zero_add])
          try simp only [List.length_set]
          show _ = _; kernel_rfl
        · replace h := ifT h (decT hb9); conv => lhs; whnf
          rw [hx_x7]
          conv => lhs; whnf
          conv => lhs; whnf
          try (rw [blt_of_len (n := a_9.length) hx_x7 (by simp only [List.length_set, List.length_append, List.length_cons, List.length_nil, Nat.zero_add])]; conv => lhs; whnf)
          rw [hx_x7]
          conv => lhs; whnf
          obtain ⟨y10, h_y10, h⟩ := callK_inv h
          rw [cl_eq hcl (L_spec_DestroyedPage  h_y10)]
          rotate_left
          · show _ = _; kernel_rfl
          · (try simp only [List.length_set, List.length_append, List.length_cons, List.length_nil, Nat.zero_add]); kernel_rfl
          conv => lhs; whnf
          rw [hx_x7]
          conv => lhs; whnf
          obtain ⟨x11, hq_x11, hx_x11', h⟩ := getK_inv h
          have hx_x11 := get_of (r := rS) hx_x11'
          try (rw [decide_eq_true hq_x11]; conv => lhs; whnf)
          rw [hx_x11]
          conv => lhs; whnf
          rw [hx_x7]
          conv => lhs; whnf
          rw [hx_x11]
          conv => lhs; whnf
          first | (rw [map_set_of (r := rS) (l := x7.Pages) (x := y10) ?hh]; case hh => exact rfl) | skip
          first | (rw [map_set_of (r := rBlock) (l := (a_9.set (Int.toNat a_0) (⟨x1.Erases, x1.Next, x1.Bad, (x1.Pages.set (Int.toNat x1.Next) y5)⟩ : Block))) (x := (⟨x7.Erases, x7.Next, x7.Bad, (x7.Pages.set (Int.toNat (IntKind.i64.wrap (x7.Next - 1))) y10)⟩ : Block)) ?hh]; case hh => exact rfl) | skip
          obtain ⟨x12, hx_x12', h⟩ := getN_inv h
          have hx_x12 := get_of (r := rBlock) hx_x12'
          rw [hx_x12]
          conv => lhs; whnf
          rw [hx_x12]
          conv => lhs; whnf
          first | (rw [map_set_of (r := rBlock) (l := ((a_9.set (Int.toNat a_0) (⟨x1.Erases, x1.Next, x1.Bad, (x1.Pages.set (Int.toNat x1.Next) y5)⟩ : Block)).set (Int.toNat a_0) (⟨x7.Erases, x7.Next, x7.Bad, (x7.Pages.set (Int.toNat (IntKind.i64.wrap (x7.Next - 1))) y10)⟩ : Block))) (x := (⟨x12.Erases, (IntKind.i64.wrap (x12.Next + 1)), x12.Bad, x12.Pages⟩ : Block)) ?hh]; case hh => exact rfl) | skip
          obtain rfl := Option.some.inj h
          try (conv => rhs; simp only [List.length_set, List.length_append, List.length_cons, List.length_nil, Nat.zero_add])
          try simp only [List.length_set]
          show _ = _; kernel_rfl
    · replace h := ifT h (beqT hb4); conv => lhs; whnf
      obtain rfl := Option.some.inj h; show _ = _; kernel_rfl


noncomputable def p_spec_ProgramPage (a_0 : Int) (a_1 : Int) (a_2 : Int) (a_3 : Int) (a_4 : Int) (a_5 : Bool) (a_6 : Int) (a_7 : Int) (a_8 : Int) (a_9 : ByteArray) (a_10 : List Block) : Option (Int × Int × Int × Int × Int × Bool × Int × Int × (List Block)) :=
  callK (p_spec_ValidFlash (⟨⟨a_0, a_1, a_2⟩, a_10, a_3, a_4, a_5, a_6⟩ : Flash)) fun y1 =>
  if y1 = true then
    if ¬ (ByteArray.size a_9 : Int) = 91 then
      some (0, 0, 0, 0, 0, false, 0, 1, ([] : List Block))
    else
      if a_5 = true then
        callK (p_spec_l06Own (⟨⟨a_0, a_1, a_2⟩, a_10, a_3, a_4, true, a_6⟩ : Flash)) fun y5 =>
        some ((⟨⟨a_0, a_1, a_2⟩, a_10, a_3, a_4, true, a_6⟩ : Flash).Geo.Dies, (⟨⟨a_0, a_1, a_2⟩, a_10, a_3, a_4, true, a_6⟩ : Flash).Geo.Blocks, (⟨⟨a_0, a_1, a_2⟩, a_10, a_3, a_4, true, a_6⟩ : Flash).Geo.Pages, (⟨⟨a_0, a_1, a_2⟩, a_10, a_3, a_4, true, a_6⟩ : Flash).Fuse, (⟨⟨a_0, a_1, a_2⟩, a_10, a_3, a_4, true, a_6⟩ : Flash).Keep, (⟨⟨a_0, a_1, a_2⟩, a_10, a_3, a_4, true, a_6⟩ : Flash).Off, (⟨⟨a_0, a_1, a_2⟩, a_10, a_3, a_4, true, a_6⟩ : Flash).Ops, 8, y5)
      else
        callK (p_spec_l06HasPage (⟨⟨a_0, a_1, a_2⟩, a_10, a_3, a_4, false, a_6⟩ : Flash) a_7 a_8) fun y6 =>
        if y6 = true then
          getK a_10 a_7 fun x8 =>
          if x8.Bad = true then
            some (0, 0, 0, 0, 0, false, 0, 7, ([] : List Block))
          else
            if ¬ x8.Next = a_8 then
              some (0, 0, 0, 0, 0, false, 0, 5, ([] : List Block))
            else
              callK (p_spec_l06Own (⟨⟨a_0, a_1, a_2⟩, a_10, a_3, a_4, false, a_6⟩ : Flash)) fun y11 =>
              callK (p_spec_l06Program a_7 a_9 ((⟨⟨a_0, a_1, a_2⟩, a_10, a_3, a_4, false, a_6⟩ : Flash).Geo.Dies) ((⟨⟨a_0, a_1, a_2⟩, a_10, a_3, a_4, false, a_6⟩ : Flash).Geo.Blocks) ((⟨⟨a_0, a_1, a_2⟩, a_10, a_3, a_4, false, a_6⟩ : Flash).Geo.Pages) ((⟨⟨a_0, a_1, a_2⟩, a_10, a_3, a_4, false, a_6⟩ : Flash).Fuse) ((⟨⟨a_0, a_1, a_2⟩, a_10, a_3, a_4, false, a_6⟩ : Flash).Keep) ((⟨⟨a_0, a_1, a_2⟩, a_10, a_3, a_4, false, a_6⟩ : Flash).Off) ((⟨⟨a_0, a_1, a_2⟩, a_10, a_3, a_4, false, a_6⟩ : Flash).Ops) y11) fun y12 =>
              some (((⟨⟨a_0, a_1, a_2⟩, a_10, a_3, a_4, false, a_6⟩ : Flash).Geo.Dies), ((⟨⟨a_0, a_1, a_2⟩, a_10, a_3, a_4, false, a_6⟩ : Flash).Geo.Blocks), ((⟨⟨a_0, a_1, a_2⟩, a_10, a_3, a_4, false, a_6⟩ : Flash).Geo.Pages), y12.2.1, ((⟨⟨a_0, a_1, a_2⟩, a_10, a_3, a_4, false, a_6⟩ : Flash).Keep), y12.2.2.1, y12.2.2.2.1, y12.1, y12.2.2.2.2)
        else
          some (0, 0, 0, 0, 0, false, 0, 2, ([] : List Block))
  else
    some (0, 0, 0, 0, 0, false, 0, 1, ([] : List Block))

set_option maxHeartbeats 4000000 in
theorem L_spec_ProgramPage (a_0 : Int) (a_1 : Int) (a_2 : Int) (a_3 : Int) (a_4 : Int) (a_5 : Bool) (a_6 : Int) (a_7 : Int) (a_8 : Int) (a_9 : ByteArray) (a_10 : List Block) {r : (Int × Int × Int × Int × Int × Bool × Int × Int × (List Block))} (h : p_spec_ProgramPage a_0 a_1 a_2 a_3 a_4 a_5 a_6 a_7 a_8 a_9 a_10 = some r) : callL E 209 [.agg [IN a_0, IN a_1, IN a_2, .nsl 0, IN a_3, IN a_4, BO a_5, IN a_6], IN a_7, IN a_8, ST a_9] ([some (.nst ⟨91, 4, 3, 9, 1⟩ a_10.length (a_10.map rBlock))] : Fo) = some (.tup [.agg [IN r.1, IN r.2.1, IN r.2.2.1, .nsl 1, IN r.2.2.2.1, IN r.2.2.2.2.1, BO r.2.2.2.2.2.1, IN r.2.2.2.2.2.2.1], IN r.2.2.2.2.2.2.2.1], ([some (.nst ⟨91, 4, 3, 9, 1⟩ a_10.length (a_10.map rBlock)), some (.nst ⟨91, 4, 3, 9, 1⟩ r.2.2.2.2.2.2.2.2.length (r.2.2.2.2.2.2.2.2.map rBlock))] : Fo)) := by
  unfold p_spec_ProgramPage at h
  refine callW (fu := Try.f209) rfl rfl rfl NN ?_
  intro lp cl hlp hcl
  conv => lhs; whnf
  obtain ⟨y1, h_y1, h⟩ := callK_inv h
  rw [cl_eq hcl (L_spec_ValidFlash (⟨⟨a_0, a_1, a_2⟩, a_10, a_3, a_4, a_5, a_6⟩ : Flash) h_y1)]
  rotate_left
  · show _ = _; kernel_rfl
  · show _ = _; kernel_rfl
  conv => lhs; whnf
  cases hb2 : y1
  · replace h := ifF h (booF hb2); conv => lhs; whnf
    try (rw [hb2]; conv => lhs; whnf)
    try (rw [hb2]; conv => lhs; whnf)
    try (rw [hb2]; conv => lhs; whnf)
    obtain rfl := Option.some.inj h; show _ = _; kernel_rfl

  · replace h := ifT h hb2
    try rw [hb2] at h
    conv => lhs; whnf
    try (rw [hb2]; conv => lhs; whnf)
    try (rw [hb2]; conv => lhs; whnf)
    try (rw [hb2]; conv => lhs; whnf)
    cases hb3 : ((ByteArray.size a_9 : Int) != 91)
    · replace h := ifF h ((fun h => not_not_intro (bneF h)) hb3); conv => lhs; whnf
      cases hb4 : a_5
      · replace h := ifF h (booF hb4); conv => lhs; whnf
        obtain ⟨y6, h_y6, h⟩ := callK_inv h
        rw [cl_eq hcl (L_spec_l06HasPage (⟨⟨a_0, a_1, a_2⟩, a_10, a_3, a_4, false, a_6⟩ : Flash) a_7 a_8 h_y6)]
        rotate_left
        · show _ = _; kernel_rfl
        · show _ = _; kernel_rfl
        conv => lhs; whnf
        cases hb7 : y6
        · replace h := ifF h (booF hb7); conv => lhs; whnf
          obtain rfl := Option.some.inj h; show _ = _; kernel_rfl

        · replace h := ifT h hb7; conv => lhs; whnf
          obtain ⟨x8, hq_x8, hx_x8', h⟩ := getK_inv h
          have hx_x8 := get_of (r := rBlock) hx_x8'
          try (rw [decide_eq_true hq_x8]; conv => lhs; whnf)
          rw [hx_x8]
          conv => lhs; whnf
          rw [hx_x8]
          conv => lhs; whnf
          cases hb9 : x8.Bad
          · replace h := ifF h (booF hb9); conv => lhs; whnf
            try (rw [decide_eq_true hq_x8]; conv => lhs; whnf)
            rw [hx_x8]
            conv => lhs; whnf
            rw [hx_x8]
            conv => lhs; whnf
            cases hb10 : (x8.Next != a_8)
            · replace h := ifF h ((fun h => not_not_intro (bneF h)) hb10); conv => lhs; whnf
              obtain ⟨y11, h_y11, h⟩ := callK_inv h
              rw [cl_eq hcl (L_spec_l06Own (⟨⟨a_0, a_1, a_2⟩, a_10, a_3, a_4, false, a_6⟩ : Flash) h_y11)]
              rotate_left
              · show _ = _; kernel_rfl
              · show _ = _; kernel_rfl
              conv => lhs; whnf
              conv => lhs; whnf
              try (rw [litF_nst (f := rBlock) (g := rS) (p := fun x => x.Pages) (fun _ => rfl) (fun _ => rfl) (fun _ => rfl)]; conv => lhs; whnf)
              obtain ⟨y12, h_y12, h⟩ := callK_inv h
              rw [cl_eq hcl (L_spec_l06Program a_7 a_9 ((⟨⟨a_0, a_1, a_2⟩, a_10, a_3, a_4, false, a_6⟩ : Flash).Geo.Dies) ((⟨⟨a_0, a_1, a_2⟩, a_10, a_3, a_4, false, a_6⟩ : Flash).Geo.Blocks) ((⟨⟨a_0, a_1, a_2⟩, a_10, a_3, a_4, false, a_6⟩ : Flash).Geo.Pages) ((⟨⟨a_0, a_1, a_2⟩, a_10, a_3, a_4, false, a_6⟩ : Flash).Fuse) ((⟨⟨a_0, a_1, a_2⟩, a_10, a_3, a_4, false, a_6⟩ : Flash).Keep) ((⟨⟨a_0, a_1, a_2⟩, a_10, a_3, a_4, false, a_6⟩ : Flash).Off) ((⟨⟨a_0, a_1, a_2⟩, a_10, a_3, a_4, false, a_6⟩ : Flash).Ops) y11 h_y12)]
              rotate_left
              · show _ = _; kernel_rfl
              · show _ = _; kernel_rfl
              conv => lhs; whnf
              obtain rfl := Option.some.inj h; show _ = _; kernel_rfl

            · replace h := ifT h (bneT hb10); conv => lhs; whnf
              obtain rfl := Option.some.inj h; show _ = _; kernel_rfl

          · replace h := ifT h hb9; conv => lhs; whnf
            obtain rfl := Option.some.inj h; show _ = _; kernel_rfl

      · replace h := ifT h hb4; conv => lhs; whnf
        obtain ⟨y5, h_y5, h⟩ := callK_inv h
        rw [cl_eq hcl (L_spec_l06Own (⟨⟨a_0, a_1, a_2⟩, a_10, a_3, a_4, true, a_6⟩ : Flash) h_y5)]
        rotate_left
        · show _ = _; kernel_rfl
        · show _ = _; kernel_rfl
        conv => lhs; whnf
        conv => lhs; whnf
        try (rw [litF_nst (f := rBlock) (g := rS) (p := fun x => x.Pages) (fun _ => rfl) (fun _ => rfl) (fun _ => rfl)]; conv => lhs; whnf)
        obtain rfl := Option.some.inj h; show _ = _; kernel_rfl

    · replace h := ifT h (bneT hb3); conv => lhs; whnf
      obtain rfl := Option.some.inj h; show _ = _; kernel_rfl


noncomputable def p_spec_l00Src_among' (a_0 : Sl00Src) (a_1 : List Int) : Option (Int × Sl00Src) :=
  callK (p_spec_l00Src_pick (a_1.length : Int) a_0) fun y1 =>
  getK a_1 y1.1 fun x2 =>
  some (x2, y1.2)

set_option maxHeartbeats 4000000 in
theorem L_spec_l00Src_among' (a_0 : Sl00Src) (a_1 : List Int) {r : (Int × Sl00Src)} (h : p_spec_l00Src_among' a_0 a_1 = some r) : callL E 145 [.bp 0 0, .sl 1] ([some (.box [.d (.arr (a_0.Code.map rU)), IN a_0.At, .d (.lit (.int .u64 a_0.Seed))]), some (.arr 2 1 (a_1.map rI))] : Fo) = some (IN r.1, ([some (.box [.d (.arr (r.2.Code.map rU)), IN r.2.At, .d (.lit (.int .u64 r.2.Seed))]), some (.arr 2 1 (a_1.map rI))] : Fo)) := by
  unfold p_spec_l00Src_among' at h
  refine callW (fu := Try.f145) rfl rfl rfl NN ?_
  intro lp cl hlp hcl
  conv => lhs; whnf
  try rw [len_of (l := a_1) (r := rI)]
  obtain ⟨y1, h_y1, h⟩ := callK_inv h
  rw [cl_eq hcl (L_spec_l00Src_pick (a_1.length : Int) a_0 h_y1)]
  rotate_left
  · show _ = _; kernel_rfl
  · show _ = _; kernel_rfl
  conv => lhs; whnf
  obtain ⟨x2, hq_x2, hx_x2', h⟩ := getK_inv h
  have hx_x2 := get_of (r := rI) hx_x2'
  try (rw [decide_eq_true hq_x2]; conv => lhs; whnf)
  rw [hx_x2]
  conv => lhs; whnf
  rw [hx_x2]
  conv => lhs; whnf
  obtain rfl := Option.some.inj h; show _ = _; kernel_rfl


noncomputable def p_spec_ArmFuse (a_0 : Int) (a_1 : Int) (a_2 : Int) (a_3 : Int) (a_4 : Int) (a_5 : Bool) (a_6 : Int) (a_7 : Int) (a_8 : Int) (a_9 : List Block) : Option (Int × Int × Int × Int × Int × Bool × Int × Int × (List Block)) :=
  callK (p_spec_ValidFlash (⟨⟨a_0, a_1, a_2⟩, a_9, a_3, a_4, a_5, a_6⟩ : Flash)) fun y1 =>
  if y1 = true then
    if a_5 = true then
      some (0, 0, 0, 0, 0, false, 0, 8, ([] : List Block))
    else
      if (inR a_7 (-1) 1000000) = true then
        if (inR a_8 0 91) = true then
          callK (p_spec_l06Own (⟨⟨a_0, a_1, a_2⟩, a_9, a_3, a_4, false, a_6⟩ : Flash)) fun y6 =>
          some ((⟨⟨a_0, a_1, a_2⟩, a_9, a_3, a_4, false, a_6⟩ : Flash).Geo.Dies, (⟨⟨a_0, a_1, a_2⟩, a_9, a_3, a_4, false, a_6⟩ : Flash).Geo.Blocks, (⟨⟨a_0, a_1, a_2⟩, a_9, a_3, a_4, false, a_6⟩ : Flash).Geo.Pages, a_7, a_8, (⟨⟨a_0, a_1, a_2⟩, a_9, a_3, a_4, false, a_6⟩ : Flash).Off, (⟨⟨a_0, a_1, a_2⟩, a_9, a_3, a_4, false, a_6⟩ : Flash).Ops, 0, y6)
        else
          some (0, 0, 0, 0, 0, false, 0, 2, ([] : List Block))
      else
        some (0, 0, 0, 0, 0, false, 0, 2, ([] : List Block))
  else
    some (0, 0, 0, 0, 0, false, 0, 1, ([] : List Block))

set_option maxHeartbeats 4000000 in
theorem L_spec_ArmFuse (a_0 : Int) (a_1 : Int) (a_2 : Int) (a_3 : Int) (a_4 : Int) (a_5 : Bool) (a_6 : Int) (a_7 : Int) (a_8 : Int) (a_9 : List Block) {r : (Int × Int × Int × Int × Int × Bool × Int × Int × (List Block))} (h : p_spec_ArmFuse a_0 a_1 a_2 a_3 a_4 a_5 a_6 a_7 a_8 a_9 = some r) : callL E 71 [.agg [IN a_0, IN a_1, IN a_2, .nsl 0, IN a_3, IN a_4, BO a_5, IN a_6], IN a_7, IN a_8] ([some (.nst ⟨91, 4, 3, 9, 1⟩ a_9.length (a_9.map rBlock))] : Fo) = some (.tup [.agg [IN r.1, IN r.2.1, IN r.2.2.1, .nsl 1, IN r.2.2.2.1, IN r.2.2.2.2.1, BO r.2.2.2.2.2.1, IN r.2.2.2.2.2.2.1], IN r.2.2.2.2.2.2.2.1], ([some (.nst ⟨91, 4, 3, 9, 1⟩ a_9.length (a_9.map rBlock)), some (.nst ⟨91, 4, 3, 9, 1⟩ r.2.2.2.2.2.2.2.2.length (r.2.2.2.2.2.2.2.2.map rBlock))] : Fo)) := by
  unfold p_spec_ArmFuse at h
  refine callW (fu := Try.f71) rfl rfl rfl NN ?_
  intro lp cl hlp hcl
  conv => lhs; whnf
  obtain ⟨y1, h_y1, h⟩ := callK_inv h
  rw [cl_eq hcl (L_spec_ValidFlash (⟨⟨a_0, a_1, a_2⟩, a_9, a_3, a_4, a_5, a_6⟩ : Flash) h_y1)]
  rotate_left
  · show _ = _; kernel_rfl
  · show _ = _; kernel_rfl
  conv => lhs; whnf
  cases hb2 : y1
  · replace h := ifF h (booF hb2); conv => lhs; whnf
    obtain rfl := Option.some.inj h; show _ = _; kernel_rfl

  · replace h := ifT h hb2; conv => lhs; whnf
    cases hb3 : a_5
    · replace h := ifF h (booF hb3); conv => lhs; whnf
      rw [cl_eq hcl (L_spec_l00In a_7 (-1) 1000000 (pl_l00In a_7 (-1) 1000000))]
      rotate_left
      · show _ = _; kernel_rfl
      · show _ = _; kernel_rfl
      conv => lhs; whnf
      cases hb4 : (inR a_7 (-1) 1000000)
      · replace h := ifF h (booF hb4); conv => lhs; whnf
        try (rw [hb4]; conv => lhs; whnf)
        try (rw [hb4]; conv => lhs; whnf)
        try (rw [hb4]; conv => lhs; whnf)
        obtain rfl := Option.some.inj h; show _ = _; kernel_rfl

      · replace h := ifT h hb4; conv => lhs; whnf
        try (rw [hb4]; conv => lhs; whnf)
        rw [cl_eq hcl (L_spec_l00In a_8 0 91 (pl_l00In a_8 0 91))]
        rotate_left
        · show _ = _; kernel_rfl
        · show _ = _; kernel_rfl
        conv => lhs; whnf
        try (rw [hb4]; conv => lhs; whnf)
        try (rw [hb4]; conv => lhs; whnf)
        cases hb5 : (inR a_8 0 91)
        · replace h := ifF h (booF hb5); conv => lhs; whnf
          obtain rfl := Option.some.inj h; show _ = _; kernel_rfl

        · replace h := ifT h hb5; conv => lhs; whnf
          obtain ⟨y6, h_y6, h⟩ := callK_inv h
          rw [cl_eq hcl (L_spec_l06Own (⟨⟨a_0, a_1, a_2⟩, a_9, a_3, a_4, false, a_6⟩ : Flash) h_y6)]
          rotate_left
          · show _ = _; kernel_rfl
          · show _ = _; kernel_rfl
          conv => lhs; whnf
          conv => lhs; whnf
          try (rw [litF_nst (f := rBlock) (g := rS) (p := fun x => x.Pages) (fun _ => rfl) (fun _ => rfl) (fun _ => rfl)]; conv => lhs; whnf)
          obtain rfl := Option.some.inj h; show _ = _; kernel_rfl

    · replace h := ifT h hb3; conv => lhs; whnf
      obtain rfl := Option.some.inj h; show _ = _; kernel_rfl


noncomputable def p_spec_l15Flash (a_0 : Sl00Src) : Option (Int × Int × Int × Int × Int × Bool × Int × Sl00Src × (List Block)) :=
  callK (p_spec_NewFlash (⟨2, 4, 8⟩ : Geometry)) fun y1 =>
  callK (p_spec_l00Src_pick 20 a_0) fun y2 =>
  iterK (fun ((v3, v4, v5, v6, v7, v8, v9, v10, v11, v12) : (Int × Sl00Src × Int × Int × Int × Int × Int × Bool × Int × (List Block))) (nx13 : (Int × Sl00Src × Int × Int × Int × Int × Int × Bool × Int × (List Block)) → Option _) =>
    if v3 > 0 then
      callK (p_spec_l00Src_pick 8 v4) fun y15 =>
      callK (p_spec_l15Text 64 y15.2) fun y16 =>
      callK (p_spec_l15Text 16 y16.2) fun y17 =>
      callK (p_spec_l00Src_pick 100 y17.2) fun y18 =>
      callK (p_spec_SealPage y16.1 y17.1 y18.1) fun y19 =>
      getK v12 y15.1 fun x20 =>
      callK (p_spec_ProgramPage v5 v6 v7 v8 v9 v10 v11 y15.1 x20.Next y19.1 v12) fun y21 =>
      if y21.2.2.2.2.2.2.2.1 = 0 then
        nx13 ((IntKind.i64.wrap (v3 - 1)), y18.2, y21.1, y21.2.1, y21.2.2.1, y21.2.2.2.1, y21.2.2.2.2.1, y21.2.2.2.2.2.1, y21.2.2.2.2.2.2.1, y21.2.2.2.2.2.2.2.2)
      else
        nx13 ((IntKind.i64.wrap (v3 - 1)), y18.2, v5, v6, v7, v8, v9, v10, v11, v12)
    else
      callK (p_spec_l00Src_one 6 v4) fun y23 =>
      if y23.1 = true then
        callK (p_spec_l00Src_pick 8 y23.2) fun y25 =>
        getK v12 y25.1 fun x26 =>
        callK (p_spec_l00Src_one 6 y25.2) fun y27 =>
        if y27.1 = true then
          callK (p_spec_l00Src_pick 8 y27.2) fun y29 =>
          callK (p_spec_l00Src_among' y29.2 ([1000, 999, 998] : List Int)) fun y30 =>
          getK (v12.set (Int.toNat y25.1) (⟨x26.Erases, x26.Next, true, x26.Pages⟩ : Block)) y29.1 fun x31 =>
          callK (p_spec_l00Src_one 2 y30.2) fun y32 =>
          if y32.1 = true then
            callK (p_spec_l00Src_pick 14 y32.2) fun y34 =>
            callK (p_spec_l00Src_among' y34.2 ([0, 3, 10, 91] : List Int)) fun y35 =>
            callK (p_spec_ArmFuse v5 v6 v7 v8 v9 v10 v11 y34.1 y35.1 ((v12.set (Int.toNat y25.1) (⟨x26.Erases, x26.Next, true, x26.Pages⟩ : Block)).set (Int.toNat y29.1) (⟨y30.1, x31.Next, x31.Bad, x31.Pages⟩ : Block))) fun y36 =>
            if y36.2.2.2.2.2.2.2.1 = 0 then
              callK (p_spec_l00Src_one 20 y35.2) fun y38 =>
              if y38.1 = true then
                callK (p_spec_l00Src_one 20 y38.2) fun y40 =>
                if y40.1 = true then
                  callK (p_spec_l00Src_among' y40.2 ([(-1), 9] : List Int)) fun y42 =>
                  getK y36.2.2.2.2.2.2.2.2 0 fun x43 =>
                  some (y36.1, y36.2.1, y36.2.2.1, y36.2.2.2.1, y36.2.2.2.2.1, true, y36.2.2.2.2.2.2.1, y42.2, (y36.2.2.2.2.2.2.2.2.set (Int.toNat 0) (⟨x43.Erases, y42.1, x43.Bad, x43.Pages⟩ : Block)))
                else
                  some (y36.1, y36.2.1, y36.2.2.1, y36.2.2.2.1, y36.2.2.2.2.1, true, y36.2.2.2.2.2.2.1, y40.2, y36.2.2.2.2.2.2.2.2)
              else
                callK (p_spec_l00Src_one 20 y38.2) fun y44 =>
                if y44.1 = true then
                  callK (p_spec_l00Src_among' y44.2 ([(-1), 9] : List Int)) fun y46 =>
                  getK y36.2.2.2.2.2.2.2.2 0 fun x47 =>
                  some (y36.1, y36.2.1, y36.2.2.1, y36.2.2.2.1, y36.2.2.2.2.1, y36.2.2.2.2.2.1, y36.2.2.2.2.2.2.1, y46.2, (y36.2.2.2.2.2.2.2.2.set (Int.toNat 0) (⟨x47.Erases, y46.1, x47.Bad, x47.Pages⟩ : Block)))
                else
                  some (y36.1, y36.2.1, y36.2.2.1, y36.2.2.2.1, y36.2.2.2.2.1, y36.2.2.2.2.2.1, y36.2.2.2.2.2.2.1, y44.2, y36.2.2.2.2.2.2.2.2)
            else
              callK (p_spec_l00Src_one 20 y35.2) fun y48 =>
              if y48.1 = true then
                callK (p_spec_l00Src_one 20 y48.2) fun y50 =>
                if y50.1 = true then
                  callK (p_spec_l00Src_among' y50.2 ([(-1), 9] : List Int)) fun y52 =>
                  getK ((v12.set (Int.toNat y25.1) (⟨x26.Erases, x26.Next, true, x26.Pages⟩ : Block)).set (Int.toNat y29.1) (⟨y30.1, x31.Next, x31.Bad, x31.Pages⟩ : Block)) 0 fun x53 =>
                  some (v5, v6, v7, v8, v9, true, v11, y52.2, (((v12.set (Int.toNat y25.1) (⟨x26.Erases, x26.Next, true, x26.Pages⟩ : Block)).set (Int.toNat y29.1) (⟨y30.1, x31.Next, x31.Bad, x31.Pages⟩ : Block)).set (Int.toNat 0) (⟨x53.Erases, y52.1, x53.Bad, x53.Pages⟩ : Block)))
                else
                  some (v5, v6, v7, v8, v9, true, v11, y50.2, ((v12.set (Int.toNat y25.1) (⟨x26.Erases, x26.Next, true, x26.Pages⟩ : Block)).set (Int.toNat y29.1) (⟨y30.1, x31.Next, x31.Bad, x31.Pages⟩ : Block)))
              else
                callK (p_spec_l00Src_one 20 y48.2) fun y54 =>
                if y54.1 = true then
                  callK (p_spec_l00Src_among' y54.2 ([(-1), 9] : List Int)) fun y56 =>
                  getK ((v12.set (Int.toNat y25.1) (⟨x26.Erases, x26.Next, true, x26.Pages⟩ : Block)).set (Int.toNat y29.1) (⟨y30.1, x31.Next, x31.Bad, x31.Pages⟩ : Block)) 0 fun x57 =>
                  some (v5, v6, v7, v8, v9, v10, v11, y56.2, (((v12.set (Int.toNat y25.1) (⟨x26.Erases, x26.Next, true, x26.Pages⟩ : Block)).set (Int.toNat y29.1) (⟨y30.1, x31.Next, x31.Bad, x31.Pages⟩ : Block)).set (Int.toNat 0) (⟨x57.Erases, y56.1, x57.Bad, x57.Pages⟩ : Block)))
                else
                  some (v5, v6, v7, v8, v9, v10, v11, y54.2, ((v12.set (Int.toNat y25.1) (⟨x26.Erases, x26.Next, true, x26.Pages⟩ : Block)).set (Int.toNat y29.1) (⟨y30.1, x31.Next, x31.Bad, x31.Pages⟩ : Block)))
          else
            callK (p_spec_l00Src_one 20 y32.2) fun y58 =>
            if y58.1 = true then
              callK (p_spec_l00Src_one 20 y58.2) fun y60 =>
              if y60.1 = true then
                callK (p_spec_l00Src_among' y60.2 ([(-1), 9] : List Int)) fun y62 =>
                getK ((v12.set (Int.toNat y25.1) (⟨x26.Erases, x26.Next, true, x26.Pages⟩ : Block)).set (Int.toNat y29.1) (⟨y30.1, x31.Next, x31.Bad, x31.Pages⟩ : Block)) 0 fun x63 =>
                some (v5, v6, v7, v8, v9, true, v11, y62.2, (((v12.set (Int.toNat y25.1) (⟨x26.Erases, x26.Next, true, x26.Pages⟩ : Block)).set (Int.toNat y29.1) (⟨y30.1, x31.Next, x31.Bad, x31.Pages⟩ : Block)).set (Int.toNat 0) (⟨x63.Erases, y62.1, x63.Bad, x63.Pages⟩ : Block)))
              else
                some (v5, v6, v7, v8, v9, true, v11, y60.2, ((v12.set (Int.toNat y25.1) (⟨x26.Erases, x26.Next, true, x26.Pages⟩ : Block)).set (Int.toNat y29.1) (⟨y30.1, x31.Next, x31.Bad, x31.Pages⟩ : Block)))
            else
              callK (p_spec_l00Src_one 20 y58.2) fun y64 =>
              if y64.1 = true then
                callK (p_spec_l00Src_among' y64.2 ([(-1), 9] : List Int)) fun y66 =>
                getK ((v12.set (Int.toNat y25.1) (⟨x26.Erases, x26.Next, true, x26.Pages⟩ : Block)).set (Int.toNat y29.1) (⟨y30.1, x31.Next, x31.Bad, x31.Pages⟩ : Block)) 0 fun x67 =>
                some (v5, v6, v7, v8, v9, v10, v11, y66.2, (((v12.set (Int.toNat y25.1) (⟨x26.Erases, x26.Next, true, x26.Pages⟩ : Block)).set (Int.toNat y29.1) (⟨y30.1, x31.Next, x31.Bad, x31.Pages⟩ : Block)).set (Int.toNat 0) (⟨x67.Erases, y66.1, x67.Bad, x67.Pages⟩ : Block)))
              else
                some (v5, v6, v7, v8, v9, v10, v11, y64.2, ((v12.set (Int.toNat y25.1) (⟨x26.Erases, x26.Next, true, x26.Pages⟩ : Block)).set (Int.toNat y29.1) (⟨y30.1, x31.Next, x31.Bad, x31.Pages⟩ : Block)))
        else
          callK (p_spec_l00Src_one 2 y27.2) fun y68 =>
          if y68.1 = true then
            callK (p_spec_l00Src_pick 14 y68.2) fun y70 =>
            callK (p_spec_l00Src_among' y70.2 ([0, 3, 10, 91] : List Int)) fun y71 =>
            callK (p_spec_ArmFuse v5 v6 v7 v8 v9 v10 v11 y70.1 y71.1 (v12.set (Int.toNat y25.1) (⟨x26.Erases, x26.Next, true, x26.Pages⟩ : Block))) fun y72 =>
            if y72.2.2.2.2.2.2.2.1 = 0 then
              callK (p_spec_l00Src_one 20 y71.2) fun y74 =>
              if y74.1 = true then
                callK (p_spec_l00Src_one 20 y74.2) fun y76 =>
                if y76.1 = true then
                  callK (p_spec_l00Src_among' y76.2 ([(-1), 9] : List Int)) fun y78 =>
                  getK y72.2.2.2.2.2.2.2.2 0 fun x79 =>
                  some (y72.1, y72.2.1, y72.2.2.1, y72.2.2.2.1, y72.2.2.2.2.1, true, y72.2.2.2.2.2.2.1, y78.2, (y72.2.2.2.2.2.2.2.2.set (Int.toNat 0) (⟨x79.Erases, y78.1, x79.Bad, x79.Pages⟩ : Block)))
                else
                  some (y72.1, y72.2.1, y72.2.2.1, y72.2.2.2.1, y72.2.2.2.2.1, true, y72.2.2.2.2.2.2.1, y76.2, y72.2.2.2.2.2.2.2.2)
              else
                callK (p_spec_l00Src_one 20 y74.2) fun y80 =>
                if y80.1 = true then
                  callK (p_spec_l00Src_among' y80.2 ([(-1), 9] : List Int)) fun y82 =>
                  getK y72.2.2.2.2.2.2.2.2 0 fun x83 =>
                  some (y72.1, y72.2.1, y72.2.2.1, y72.2.2.2.1, y72.2.2.2.2.1, y72.2.2.2.2.2.1, y72.2.2.2.2.2.2.1, y82.2, (y72.2.2.2.2.2.2.2.2.set (Int.toNat 0) (⟨x83.Erases, y82.1, x83.Bad, x83.Pages⟩ : Block)))
                else
                  some (y72.1, y72.2.1, y72.2.2.1, y72.2.2.2.1, y72.2.2.2.2.1, y72.2.2.2.2.2.1, y72.2.2.2.2.2.2.1, y80.2, y72.2.2.2.2.2.2.2.2)
            else
              callK (p_spec_l00Src_one 20 y71.2) fun y84 =>
              if y84.1 = true then
                callK (p_spec_l00Src_one 20 y84.2) fun y86 =>
                if y86.1 = true then
                  callK (p_spec_l00Src_among' y86.2 ([(-1), 9] : List Int)) fun y88 =>
                  getK (v12.set (Int.toNat y25.1) (⟨x26.Erases, x26.Next, true, x26.Pages⟩ : Block)) 0 fun x89 =>
                  some (v5, v6, v7, v8, v9, true, v11, y88.2, ((v12.set (Int.toNat y25.1) (⟨x26.Erases, x26.Next, true, x26.Pages⟩ : Block)).set (Int.toNat 0) (⟨x89.Erases, y88.1, x89.Bad, x89.Pages⟩ : Block)))
                else
                  some (v5, v6, v7, v8, v9, true, v11, y86.2, (v12.set (Int.toNat y25.1) (⟨x26.Erases, x26.Next, true, x26.Pages⟩ : Block)))
              else
                callK (p_spec_l00Src_one 20 y84.2) fun y90 =>
                if y90.1 = true then
                  callK (p_spec_l00Src_among' y90.2 ([(-1), 9] : List Int)) fun y92 =>
                  getK (v12.set (Int.toNat y25.1) (⟨x26.Erases, x26.Next, true, x26.Pages⟩ : Block)) 0 fun x93 =>
                  some (v5, v6, v7, v8, v9, v10, v11, y92.2, ((v12.set (Int.toNat y25.1) (⟨x26.Erases, x26.Next, true, x26.Pages⟩ : Block)).set (Int.toNat 0) (⟨x93.Erases, y92.1, x93.Bad, x93.Pages⟩ : Block)))
                else
                  some (v5, v6, v7, v8, v9, v10, v11, y90.2, (v12.set (Int.toNat y25.1) (⟨x26.Erases, x26.Next, true, x26.Pages⟩ : Block)))
          else
            callK (p_spec_l00Src_one 20 y68.2) fun y94 =>
            if y94.1 = true then
              callK (p_spec_l00Src_one 20 y94.2) fun y96 =>
              if y96.1 = true then
                callK (p_spec_l00Src_among' y96.2 ([(-1), 9] : List Int)) fun y98 =>
                getK (v12.set (Int.toNat y25.1) (⟨x26.Erases, x26.Next, true, x26.Pages⟩ : Block)) 0 fun x99 =>
                some (v5, v6, v7, v8, v9, true, v11, y98.2, ((v12.set (Int.toNat y25.1) (⟨x26.Erases, x26.Next, true, x26.Pages⟩ : Block)).set (Int.toNat 0) (⟨x99.Erases, y98.1, x99.Bad, x99.Pages⟩ : Block)))
              else
                some (v5, v6, v7, v8, v9, true, v11, y96.2, (v12.set (Int.toNat y25.1) (⟨x26.Erases, x26.Next, true, x26.Pages⟩ : Block)))
            else
              callK (p_spec_l00Src_one 20 y94.2) fun y100 =>
              if y100.1 = true then
                callK (p_spec_l00Src_among' y100.2 ([(-1), 9] : List Int)) fun y102 =>
                getK (v12.set (Int.toNat y25.1) (⟨x26.Erases, x26.Next, true, x26.Pages⟩ : Block)) 0 fun x103 =>
                some (v5, v6, v7, v8, v9, v10, v11, y102.2, ((v12.set (Int.toNat y25.1) (⟨x26.Erases, x26.Next, true, x26.Pages⟩ : Block)).set (Int.toNat 0) (⟨x103.Erases, y102.1, x103.Bad, x103.Pages⟩ : Block)))
              else
                some (v5, v6, v7, v8, v9, v10, v11, y100.2, (v12.set (Int.toNat y25.1) (⟨x26.Erases, x26.Next, true, x26.Pages⟩ : Block)))
      else
        callK (p_spec_l00Src_one 6 y23.2) fun y104 =>
        if y104.1 = true then
          callK (p_spec_l00Src_pick 8 y104.2) fun y106 =>
          callK (p_spec_l00Src_among' y106.2 ([1000, 999, 998] : List Int)) fun y107 =>
          getK v12 y106.1 fun x108 =>
          callK (p_spec_l00Src_one 2 y107.2) fun y109 =>
          if y109.1 = true then
            callK (p_spec_l00Src_pick 14 y109.2) fun y111 =>
            callK (p_spec_l00Src_among' y111.2 ([0, 3, 10, 91] : List Int)) fun y112 =>
            callK (p_spec_ArmFuse v5 v6 v7 v8 v9 v10 v11 y111.1 y112.1 (v12.set (Int.toNat y106.1) (⟨y107.1, x108.Next, x108.Bad, x108.Pages⟩ : Block))) fun y113 =>
            if y113.2.2.2.2.2.2.2.1 = 0 then
              callK (p_spec_l00Src_one 20 y112.2) fun y115 =>
              if y115.1 = true then
                callK (p_spec_l00Src_one 20 y115.2) fun y117 =>
                if y117.1 = true then
                  callK (p_spec_l00Src_among' y117.2 ([(-1), 9] : List Int)) fun y119 =>
                  getK y113.2.2.2.2.2.2.2.2 0 fun x120 =>
                  some (y113.1, y113.2.1, y113.2.2.1, y113.2.2.2.1, y113.2.2.2.2.1, true, y113.2.2.2.2.2.2.1, y119.2, (y113.2.2.2.2.2.2.2.2.set (Int.toNat 0) (⟨x120.Erases, y119.1, x120.Bad, x120.Pages⟩ : Block)))
                else
                  some (y113.1, y113.2.1, y113.2.2.1, y113.2.2.2.1, y113.2.2.2.2.1, true, y113.2.2.2.2.2.2.1, y117.2, y113.2.2.2.2.2.2.2.2)
              else
                callK (p_spec_l00Src_one 20 y115.2) fun y121 =>
                if y121.1 = true then
                  callK (p_spec_l00Src_among' y121.2 ([(-1), 9] : List Int)) fun y123 =>
                  getK y113.2.2.2.2.2.2.2.2 0 fun x124 =>
                  some (y113.1, y113.2.1, y113.2.2.1, y113.2.2.2.1, y113.2.2.2.2.1, y113.2.2.2.2.2.1, y113.2.2.2.2.2.2.1, y123.2, (y113.2.2.2.2.2.2.2.2.set (Int.toNat 0) (⟨x124.Erases, y123.1, x124.Bad, x124.Pages⟩ : Block)))
                else
                  some (y113.1, y113.2.1, y113.2.2.1, y113.2.2.2.1, y113.2.2.2.2.1, y113.2.2.2.2.2.1, y113.2.2.2.2.2.2.1, y121.2, y113.2.2.2.2.2.2.2.2)
            else
              callK (p_spec_l00Src_one 20 y112.2) fun y125 =>
              if y125.1 = true then
                callK (p_spec_l00Src_one 20 y125.2) fun y127 =>
                if y127.1 = true then
                  callK (p_spec_l00Src_among' y127.2 ([(-1), 9] : List Int)) fun y129 =>
                  getK (v12.set (Int.toNat y106.1) (⟨y107.1, x108.Next, x108.Bad, x108.Pages⟩ : Block)) 0 fun x130 =>
                  some (v5, v6, v7, v8, v9, true, v11, y129.2, ((v12.set (Int.toNat y106.1) (⟨y107.1, x108.Next, x108.Bad, x108.Pages⟩ : Block)).set (Int.toNat 0) (⟨x130.Erases, y129.1, x130.Bad, x130.Pages⟩ : Block)))
                else
                  some (v5, v6, v7, v8, v9, true, v11, y127.2, (v12.set (Int.toNat y106.1) (⟨y107.1, x108.Next, x108.Bad, x108.Pages⟩ : Block)))
              else
                callK (p_spec_l00Src_one 20 y125.2) fun y131 =>
                if y131.1 = true then
                  callK (p_spec_l00Src_among' y131.2 ([(-1), 9] : List Int)) fun y133 =>
                  getK (v12.set (Int.toNat y106.1) (⟨y107.1, x108.Next, x108.Bad, x108.Pages⟩ : Block)) 0 fun x134 =>
                  some (v5, v6, v7, v8, v9, v10, v11, y133.2, ((v12.set (Int.toNat y106.1) (⟨y107.1, x108.Next, x108.Bad, x108.Pages⟩ : Block)).set (Int.toNat 0) (⟨x134.Erases, y133.1, x134.Bad, x134.Pages⟩ : Block)))
                else
                  some (v5, v6, v7, v8, v9, v10, v11, y131.2, (v12.set (Int.toNat y106.1) (⟨y107.1, x108.Next, x108.Bad, x108.Pages⟩ : Block)))
          else
            callK (p_spec_l00Src_one 20 y109.2) fun y135 =>
            if y135.1 = true then
              callK (p_spec_l00Src_one 20 y135.2) fun y137 =>
              if y137.1 = true then
                callK (p_spec_l00Src_among' y137.2 ([(-1), 9] : List Int)) fun y139 =>
                getK (v12.set (Int.toNat y106.1) (⟨y107.1, x108.Next, x108.Bad, x108.Pages⟩ : Block)) 0 fun x140 =>
                some (v5, v6, v7, v8, v9, true, v11, y139.2, ((v12.set (Int.toNat y106.1) (⟨y107.1, x108.Next, x108.Bad, x108.Pages⟩ : Block)).set (Int.toNat 0) (⟨x140.Erases, y139.1, x140.Bad, x140.Pages⟩ : Block)))
              else
                some (v5, v6, v7, v8, v9, true, v11, y137.2, (v12.set (Int.toNat y106.1) (⟨y107.1, x108.Next, x108.Bad, x108.Pages⟩ : Block)))
            else
              callK (p_spec_l00Src_one 20 y135.2) fun y141 =>
              if y141.1 = true then
                callK (p_spec_l00Src_among' y141.2 ([(-1), 9] : List Int)) fun y143 =>
                getK (v12.set (Int.toNat y106.1) (⟨y107.1, x108.Next, x108.Bad, x108.Pages⟩ : Block)) 0 fun x144 =>
                some (v5, v6, v7, v8, v9, v10, v11, y143.2, ((v12.set (Int.toNat y106.1) (⟨y107.1, x108.Next, x108.Bad, x108.Pages⟩ : Block)).set (Int.toNat 0) (⟨x144.Erases, y143.1, x144.Bad, x144.Pages⟩ : Block)))
              else
                some (v5, v6, v7, v8, v9, v10, v11, y141.2, (v12.set (Int.toNat y106.1) (⟨y107.1, x108.Next, x108.Bad, x108.Pages⟩ : Block)))
        else
          callK (p_spec_l00Src_one 2 y104.2) fun y145 =>
          if y145.1 = true then
            callK (p_spec_l00Src_pick 14 y145.2) fun y147 =>
            callK (p_spec_l00Src_among' y147.2 ([0, 3, 10, 91] : List Int)) fun y148 =>
            callK (p_spec_ArmFuse v5 v6 v7 v8 v9 v10 v11 y147.1 y148.1 v12) fun y149 =>
            if y149.2.2.2.2.2.2.2.1 = 0 then
              callK (p_spec_l00Src_one 20 y148.2) fun y151 =>
              if y151.1 = true then
                callK (p_spec_l00Src_one 20 y151.2) fun y153 =>
                if y153.1 = true then
                  callK (p_spec_l00Src_among' y153.2 ([(-1), 9] : List Int)) fun y155 =>
                  getK y149.2.2.2.2.2.2.2.2 0 fun x156 =>
                  some (y149.1, y149.2.1, y149.2.2.1, y149.2.2.2.1, y149.2.2.2.2.1, true, y149.2.2.2.2.2.2.1, y155.2, (y149.2.2.2.2.2.2.2.2.set (Int.toNat 0) (⟨x156.Erases, y155.1, x156.Bad, x156.Pages⟩ : Block)))
                else
                  some (y149.1, y149.2.1, y149.2.2.1, y149.2.2.2.1, y149.2.2.2.2.1, true, y149.2.2.2.2.2.2.1, y153.2, y149.2.2.2.2.2.2.2.2)
              else
                callK (p_spec_l00Src_one 20 y151.2) fun y157 =>
                if y157.1 = true then
                  callK (p_spec_l00Src_among' y157.2 ([(-1), 9] : List Int)) fun y159 =>
                  getK y149.2.2.2.2.2.2.2.2 0 fun x160 =>
                  some (y149.1, y149.2.1, y149.2.2.1, y149.2.2.2.1, y149.2.2.2.2.1, y149.2.2.2.2.2.1, y149.2.2.2.2.2.2.1, y159.2, (y149.2.2.2.2.2.2.2.2.set (Int.toNat 0) (⟨x160.Erases, y159.1, x160.Bad, x160.Pages⟩ : Block)))
                else
                  some (y149.1, y149.2.1, y149.2.2.1, y149.2.2.2.1, y149.2.2.2.2.1, y149.2.2.2.2.2.1, y149.2.2.2.2.2.2.1, y157.2, y149.2.2.2.2.2.2.2.2)
            else
              callK (p_spec_l00Src_one 20 y148.2) fun y161 =>
              if y161.1 = true then
                callK (p_spec_l00Src_one 20 y161.2) fun y163 =>
                if y163.1 = true then
                  callK (p_spec_l00Src_among' y163.2 ([(-1), 9] : List Int)) fun y165 =>
                  getK v12 0 fun x166 =>
                  some (v5, v6, v7, v8, v9, true, v11, y165.2, (v12.set (Int.toNat 0) (⟨x166.Erases, y165.1, x166.Bad, x166.Pages⟩ : Block)))
                else
                  some (v5, v6, v7, v8, v9, true, v11, y163.2, v12)
              else
                callK (p_spec_l00Src_one 20 y161.2) fun y167 =>
                if y167.1 = true then
                  callK (p_spec_l00Src_among' y167.2 ([(-1), 9] : List Int)) fun y169 =>
                  getK v12 0 fun x170 =>
                  some (v5, v6, v7, v8, v9, v10, v11, y169.2, (v12.set (Int.toNat 0) (⟨x170.Erases, y169.1, x170.Bad, x170.Pages⟩ : Block)))
                else
                  some (v5, v6, v7, v8, v9, v10, v11, y167.2, v12)
          else
            callK (p_spec_l00Src_one 20 y145.2) fun y171 =>
            if y171.1 = true then
              callK (p_spec_l00Src_one 20 y171.2) fun y173 =>
              if y173.1 = true then
                callK (p_spec_l00Src_among' y173.2 ([(-1), 9] : List Int)) fun y175 =>
                getK v12 0 fun x176 =>
                some (v5, v6, v7, v8, v9, true, v11, y175.2, (v12.set (Int.toNat 0) (⟨x176.Erases, y175.1, x176.Bad, x176.Pages⟩ : Block)))
              else
                some (v5, v6, v7, v8, v9, true, v11, y173.2, v12)
            else
              callK (p_spec_l00Src_one 20 y171.2) fun y177 =>
              if y177.1 = true then
                callK (p_spec_l00Src_among' y177.2 ([(-1), 9] : List Int)) fun y179 =>
                getK v12 0 fun x180 =>
                some (v5, v6, v7, v8, v9, v10, v11, y179.2, (v12.set (Int.toNat 0) (⟨x180.Erases, y179.1, x180.Bad, x180.Pages⟩ : Block)))
              else
                some (v5, v6, v7, v8, v9, v10, v11, y177.2, v12)) NN (y2.1, y2.2, y1.1, y1.2.1, y1.2.2.1, y1.2.2.2.1, y1.2.2.2.2.1, y1.2.2.2.2.2.1, y1.2.2.2.2.2.2.1, y1.2.2.2.2.2.2.2.2)

set_option maxHeartbeats 4000000 in
theorem L_spec_l15Flash (a_0 : Sl00Src) {r : (Int × Int × Int × Int × Int × Bool × Int × Sl00Src × (List Block))} (h : p_spec_l15Flash a_0 = some r) : callL E 130 [.bp 0 0] ([some (.box [.d (.arr (a_0.Code.map rU)), IN a_0.At, .d (.lit (.int .u64 a_0.Seed))])] : Fo) = some (.agg [IN r.1, IN r.2.1, IN r.2.2.1, .nsl 1, IN r.2.2.2.1, IN r.2.2.2.2.1, BO r.2.2.2.2.2.1, IN r.2.2.2.2.2.2.1], ([some (.box [.d (.arr (r.2.2.2.2.2.2.2.1.Code.map rU)), IN r.2.2.2.2.2.2.2.1.At, .d (.lit (.int .u64 r.2.2.2.2.2.2.2.1.Seed))]), some (.nst ⟨91, 4, 3, 9, 1⟩ r.2.2.2.2.2.2.2.2.length (r.2.2.2.2.2.2.2.2.map rBlock))] : Fo)) := by
  unfold p_spec_l15Flash at h
  refine callW (fu := Try.f130) rfl rfl rfl NN ?_
  intro lp cl hlp hcl
  conv => lhs; whnf
  obtain ⟨y1, h_y1, h⟩ := callK_inv h
  rw [cl_eq hcl (L_spec_NewFlash (⟨2, 4, 8⟩ : Geometry) h_y1)]
  rotate_left
  · show _ = _; kernel_rfl
  · show _ = _; kernel_rfl
  conv => lhs; whnf
  obtain ⟨y2, h_y2, h⟩ := callK_inv h
  rw [cl_eq hcl (L_spec_l00Src_pick 20 a_0 h_y2)]
  rotate_left
  · show _ = _; kernel_rfl
  · show _ = _; kernel_rfl
  conv => lhs; whnf
  refine loop_iter hlp (fun ((v3, v4, v5, v6, v7, v8, v9, v10, v11, v12) : (Int × Sl00Src × Int × Int × Int × Int × Int × Bool × Int × (List Block))) => ([.bp 0 0, .dead, .bp 1 0, .bp 2 0, .dead, IN v3] ++ List.replicate 93 .dead : List V)) (fun ((v3, v4, v5, v6, v7, v8, v9, v10, v11, v12) : (Int × Sl00Src × Int × Int × Int × Int × Int × Bool × Int × (List Block))) => ([some (.box [.d (.arr (v4.Code.map rU)), IN v4.At, .d (.lit (.int .u64 v4.Seed))]), some (.box [IN 0, IN 0, IN 0, .d (.arr (([] : List Block).map rBlock)), IN 0, IN 0, BO false, IN 0]), some (.box [IN v5, IN v6, IN v7, .nsl 3, IN v8, IN v9, BO v10, IN v11]), some (.nst ⟨91, 4, 3, 9, 1⟩ v12.length (v12.map rBlock))] : Fo)) (fun (r : (Int × Int × Int × Int × Int × Bool × Int × Sl00Src × (List Block))) => ((.agg [IN r.1, IN r.2.1, IN r.2.2.1, .nsl 1, IN r.2.2.2.1, IN r.2.2.2.2.1, BO r.2.2.2.2.2.1, IN r.2.2.2.2.2.2.1] : V), ([some (.box [.d (.arr (r.2.2.2.2.2.2.2.1.Code.map rU)), IN r.2.2.2.2.2.2.2.1.At, .d (.lit (.int .u64 r.2.2.2.2.2.2.2.1.Seed))]), some (.nst ⟨91, 4, 3, 9, 1⟩ r.2.2.2.2.2.2.2.2.length (r.2.2.2.2.2.2.2.2.map rBlock))] : Fo))) ?_ (y2.1, y2.2, y1.1, y1.2.1, y1.2.2.1, y1.2.2.2.1, y1.2.2.2.2.1, y1.2.2.2.2.2.1, y1.2.2.2.2.2.2.1, y1.2.2.2.2.2.2.2.2) _ (fun kk => by kernel_rfl) h
  clear h
  rintro next_nx13 nx13 hnx13 ⟨v3, v4, v5, v6, v7, v8, v9, v10, v11, v12⟩ r h
  try dsimp only at h
  conv => lhs; whnf
  cases hb14 : (decide (v3 > 0))
  · replace h := ifF h (decF hb14); conv => lhs; whnf
    obtain ⟨y23, h_y23, h⟩ := callK_inv h
    rw [cl_eq hcl (L_spec_l00Src_one 6 v4 h_y23)]
    rotate_left
    · show _ = _; kernel_rfl
    · show _ = _; kernel_rfl
    conv => lhs; whnf
    cases hb24 : y23.1
    · replace h := ifF h (booF hb24); conv => lhs; whnf
      obtain ⟨y104, h_y104, h⟩ := callK_inv h
      rw [cl_eq hcl (L_spec_l00Src_one 6 y23.2 h_y104)]
      rotate_left
      · show _ = _; kernel_rfl
      · show _ = _; kernel_rfl
      conv => lhs; whnf
      cases hb105 : y104.1
      · replace h := ifF h (booF hb105); conv => lhs; whnf
        obtain ⟨y145, h_y145, h⟩ := callK_inv h
        rw [cl_eq hcl (L_spec_l00Src_one 2 y104.2 h_y145)]
        rotate_left
        · show _ = _; kernel_rfl
        · show _ = _; kernel_rfl
        conv => lhs; whnf
        cases hb146 : y145.1
        · replace h := ifF h (booF hb146); conv => lhs; whnf
          obtain ⟨y171, h_y171, h⟩ := callK_inv h
          rw [cl_eq hcl (L_spec_l00Src_one 20 y145.2 h_y171)]
          rotate_left
          · show _ = _; kernel_rfl
          · show _ = _; kernel_rfl
          conv => lhs; whnf
          cases hb172 : y171.1
          · replace h := ifF h (booF hb172); conv => lhs; whnf
            obtain ⟨y177, h_y177, h⟩ := callK_inv h
            rw [cl_eq hcl (L_spec_l00Src_one 20 y171.2 h_y177)]
            rotate_left
            · show _ = _; kernel_rfl
            · show _ = _; kernel_rfl
            conv => lhs; whnf
            cases hb178 : y177.1
            · replace h := ifF h (booF hb178); conv => lhs; whnf
              obtain rfl := Option.some.inj h; show _ = _; kernel_rfl

            · replace h := ifT h hb178; conv => lhs; whnf
              obtain ⟨y179, h_y179, h⟩ := callK_inv h
              rw [cl_eq hcl (L_spec_l00Src_among' y177.2 ([(-1), 9] : List Int) h_y179)]
              rotate_left
              · show _ = _; kernel_rfl
              · show _ = _; kernel_rfl
              conv => lhs; whnf
              obtain ⟨x180, hq_x180, hx_x180', h⟩ := getK_inv h
              have hx_x180 := get_of (r := rBlock) hx_x180'
              try (rw [decide_eq_true hq_x180]; conv => lhs; whnf)
              rw [hx_x180]
              conv => lhs; whnf
              rw [hx_x180]
              conv => lhs; whnf
              first | (rw [map_set_of (r := rBlock) (l := v12) (x := (⟨x180.Erases, y179.1, x180.Bad, x180.Pages⟩ : Block)) ?hh]; case hh => exact rfl) | skip
              obtain rfl := Option.some.inj h
              try (conv => rhs; simp only [List.length_set, List.length_append, List.length_cons, List.length_nil, Nat.zero_add])
              try simp only [List.length_set]
              show _ = _; kernel_rfl
          · replace h := ifT h hb172; conv => lhs; whnf
            obtain ⟨y173, h_y173, h⟩ := callK_inv h
            rw [cl_eq hcl (L_spec_l00Src_one 20 y171.2 h_y173)]
            rotate_left
            · show _ = _; kernel_rfl
            · show _ = _; kernel_rfl
            conv => lhs; whnf
            cases hb174 : y173.1
            · replace h := ifF h (booF hb174); conv => lhs; whnf
              obtain rfl := Option.some.inj h; show _ = _; kernel_rfl

            · replace h := ifT h hb174; conv => lhs; whnf
              obtain ⟨y175, h_y175, h⟩ := callK_inv h
              rw [cl_eq hcl (L_spec_l00Src_among' y173.2 ([(-1), 9] : List Int) h_y175)]
              rotate_left
              · show _ = _; kernel_rfl
              · show _ = _; kernel_rfl
              conv => lhs; whnf
              obtain ⟨x176, hq_x176, hx_x176', h⟩ := getK_inv h
              have hx_x176 := get_of (r := rBlock) hx_x176'
              try (rw [decide_eq_true hq_x176]; conv => lhs; whnf)
              rw [hx_x176]
              conv => lhs; whnf
              rw [hx_x176]
              conv => lhs; whnf
              first | (rw [map_set_of (r := rBlock) (l := v12) (x := (⟨x176.Erases, y175.1, x176.Bad, x176.Pages⟩ : Block)) ?hh]; case hh => exact rfl) | skip
              obtain rfl := Option.some.inj h
              try (conv => rhs; simp only [List.length_set, List.length_append, List.length_cons, List.length_nil, Nat.zero_add])
              try simp only [List.length_set]
              show _ = _; kernel_rfl
        · replace h := ifT h hb146; conv => lhs; whnf
          obtain ⟨y147, h_y147, h⟩ := callK_inv h
          rw [cl_eq hcl (L_spec_l00Src_pick 14 y145.2 h_y147)]
          rotate_left
          · show _ = _; kernel_rfl
          · show _ = _; kernel_rfl
          conv => lhs; whnf
          obtain ⟨y148, h_y148, h⟩ := callK_inv h
          rw [cl_eq hcl (L_spec_l00Src_among' y147.2 ([0, 3, 10, 91] : List Int) h_y148)]
          rotate_left
          · show _ = _; kernel_rfl
          · show _ = _; kernel_rfl
          conv => lhs; whnf
          obtain ⟨y149, h_y149, h⟩ := callK_inv h
          rw [cl_eq hcl (L_spec_ArmFuse v5 v6 v7 v8 v9 v10 v11 y147.1 y148.1 v12 h_y149)]
          rotate_left
          · show _ = _; kernel_rfl
          · show _ = _; kernel_rfl
          conv => lhs; whnf
          cases hb150 : (y149.2.2.2.2.2.2.2.1 == 0)
          · replace h := ifF h (beqF hb150); conv => lhs; whnf
            obtain ⟨y161, h_y161, h⟩ := callK_inv h
            rw [cl_eq hcl (L_spec_l00Src_one 20 y148.2 h_y161)]
            rotate_left
            · show _ = _; kernel_rfl
            · show _ = _; kernel_rfl
            conv => lhs; whnf
            cases hb162 : y161.1
            · replace h := ifF h (booF hb162); conv => lhs; whnf
              obtain ⟨y167, h_y167, h⟩ := callK_inv h
              rw [cl_eq hcl (L_spec_l00Src_one 20 y161.2 h_y167)]
              rotate_left
              · show _ = _; kernel_rfl
              · show _ = _; kernel_rfl
              conv => lhs; whnf
              cases hb168 : y167.1
              · replace h := ifF h (booF hb168); conv => lhs; whnf
                obtain rfl := Option.some.inj h; show _ = _; kernel_rfl

              · replace h := ifT h hb168; conv => lhs; whnf
                obtain ⟨y169, h_y169, h⟩ := callK_inv h
                rw [cl_eq hcl (L_spec_l00Src_among' y167.2 ([(-1), 9] : List Int) h_y169)]
                rotate_left
                · show _ = _; kernel_rfl
                · show _ = _; kernel_rfl
                conv => lhs; whnf
                obtain ⟨x170, hq_x170, hx_x170', h⟩ := getK_inv h
                have hx_x170 := get_of (r := rBlock) hx_x170'
                try (rw [decide_eq_true hq_x170]; conv => lhs; whnf)
                rw [hx_x170]
                conv => lhs; whnf
                rw [hx_x170]
                conv => lhs; whnf
                first | (rw [map_set_of (r := rBlock) (l := v12) (x := (⟨x170.Erases, y169.1, x170.Bad, x170.Pages⟩ : Block)) ?hh]; case hh => exact rfl) | skip
                obtain rfl := Option.some.inj h
                try (conv => rhs; simp only [List.length_set, List.length_append, List.length_cons, List.length_nil, Nat.zero_add])
                try simp only [List.length_set]
                show _ = _; kernel_rfl
            · replace h := ifT h hb162; conv => lhs; whnf
              obtain ⟨y163, h_y163, h⟩ := callK_inv h
              rw [cl_eq hcl (L_spec_l00Src_one 20 y161.2 h_y163)]
              rotate_left
              · show _ = _; kernel_rfl
              · show _ = _; kernel_rfl
              conv => lhs; whnf
              cases hb164 : y163.1
              · replace h := ifF h (booF hb164); conv => lhs; whnf
                obtain rfl := Option.some.inj h; show _ = _; kernel_rfl

              · replace h := ifT h hb164; conv => lhs; whnf
                obtain ⟨y165, h_y165, h⟩ := callK_inv h
                rw [cl_eq hcl (L_spec_l00Src_among' y163.2 ([(-1), 9] : List Int) h_y165)]
                rotate_left
                · show _ = _; kernel_rfl
                · show _ = _; kernel_rfl
                conv => lhs; whnf
                obtain ⟨x166, hq_x166, hx_x166', h⟩ := getK_inv h
                have hx_x166 := get_of (r := rBlock) hx_x166'
                try (rw [decide_eq_true hq_x166]; conv => lhs; whnf)
                rw [hx_x166]
                conv => lhs; whnf
                rw [hx_x166]
                conv => lhs; whnf
                first | (rw [map_set_of (r := rBlock) (l := v12) (x := (⟨x166.Erases, y165.1, x166.Bad, x166.Pages⟩ : Block)) ?hh]; case hh => exact rfl) | skip
                obtain rfl := Option.some.inj h
                try (conv => rhs; simp only [List.length_set, List.length_append, List.length_cons, List.length_nil, Nat.zero_add])
                try simp only [List.length_set]
                show _ = _; kernel_rfl
          · replace h := ifT h (beqT hb150); conv => lhs; whnf
            obtain ⟨y151, h_y151, h⟩ := callK_inv h
            rw [cl_eq hcl (L_spec_l00Src_one 20 y148.2 h_y151)]
            rotate_left
            · show _ = _; kernel_rfl
            · show _ = _; kernel_rfl
            conv => lhs; whnf
            cases hb152 : y151.1
            · replace h := ifF h (booF hb152); conv => lhs; whnf
              obtain ⟨y157, h_y157, h⟩ := callK_inv h
              rw [cl_eq hcl (L_spec_l00Src_one 20 y151.2 h_y157)]
              rotate_left
              · show _ = _; kernel_rfl
              · show _ = _; kernel_rfl
              conv => lhs; whnf
              cases hb158 : y157.1
              · replace h := ifF h (booF hb158); conv => lhs; whnf
                obtain rfl := Option.some.inj h; show _ = _; kernel_rfl

              · replace h := ifT h hb158; conv => lhs; whnf
                obtain ⟨y159, h_y159, h⟩ := callK_inv h
                rw [cl_eq hcl (L_spec_l00Src_among' y157.2 ([(-1), 9] : List Int) h_y159)]
                rotate_left
                · show _ = _; kernel_rfl
                · show _ = _; kernel_rfl
                conv => lhs; whnf
                obtain ⟨x160, hq_x160, hx_x160', h⟩ := getK_inv h
                have hx_x160 := get_of (r := rBlock) hx_x160'
                try (rw [decide_eq_true hq_x160]; conv => lhs; whnf)
                rw [hx_x160]
                conv => lhs; whnf
                rw [hx_x160]
                conv => lhs; whnf
                first | (rw [map_set_of (r := rBlock) (l := y149.2.2.2.2.2.2.2.2) (x := (⟨x160.Erases, y159.1, x160.Bad, x160.Pages⟩ : Block)) ?hh]; case hh => exact rfl) | skip
                obtain rfl := Option.some.inj h
                try (conv => rhs; simp only [List.length_set, List.length_append, List.length_cons, List.length_nil, Nat.zero_add])
                try simp only [List.length_set]
                show _ = _; kernel_rfl
            · replace h := ifT h hb152; conv => lhs; whnf
              obtain ⟨y153, h_y153, h⟩ := callK_inv h
              rw [cl_eq hcl (L_spec_l00Src_one 20 y151.2 h_y153)]
              rotate_left
              · show _ = _; kernel_rfl
              · show _ = _; kernel_rfl
              conv => lhs; whnf
              cases hb154 : y153.1
              · replace h := ifF h (booF hb154); conv => lhs; whnf
                obtain rfl := Option.some.inj h; show _ = _; kernel_rfl

              · replace h := ifT h hb154; conv => lhs; whnf
                obtain ⟨y155, h_y155, h⟩ := callK_inv h
                rw [cl_eq hcl (L_spec_l00Src_among' y153.2 ([(-1), 9] : List Int) h_y155)]
                rotate_left
                · show _ = _; kernel_rfl
                · show _ = _; kernel_rfl
                conv => lhs; whnf
                obtain ⟨x156, hq_x156, hx_x156', h⟩ := getK_inv h
                have hx_x156 := get_of (r := rBlock) hx_x156'
                try (rw [decide_eq_true hq_x156]; conv => lhs; whnf)
                rw [hx_x156]
                conv => lhs; whnf
                rw [hx_x156]
                conv => lhs; whnf
                first | (rw [map_set_of (r := rBlock) (l := y149.2.2.2.2.2.2.2.2) (x := (⟨x156.Erases, y155.1, x156.Bad, x156.Pages⟩ : Block)) ?hh]; case hh => exact rfl) | skip
                obtain rfl := Option.some.inj h
                try (conv => rhs; simp only [List.length_set, List.length_append, List.length_cons, List.length_nil, Nat.zero_add])
                try simp only [List.length_set]
                show _ = _; kernel_rfl
      · replace h := ifT h hb105; conv => lhs; whnf
        obtain ⟨y106, h_y106, h⟩ := callK_inv h
        rw [cl_eq hcl (L_spec_l00Src_pick 8 y104.2 h_y106)]
        rotate_left
        · show _ = _; kernel_rfl
        · show _ = _; kernel_rfl
        conv => lhs; whnf
        obtain ⟨y107, h_y107, h⟩ := callK_inv h
        rw [cl_eq hcl (L_spec_l00Src_among' y106.2 ([1000, 999, 998] : List Int) h_y107)]
        rotate_left
        · show _ = _; kernel_rfl
        · show _ = _; kernel_rfl
        conv => lhs; whnf
        obtain ⟨x108, hq_x108, hx_x108', h⟩ := getK_inv h
        have hx_x108 := get_of (r := rBlock) hx_x108'
        try (rw [decide_eq_true hq_x108]; conv => lhs; whnf)
        rw [hx_x108]
        conv => lhs; whnf
        rw [hx_x108]
        conv => lhs; whnf
        first | (rw [map_set_of (r := rBlock) (l := v12) (x := (⟨y107.1, x108.Next, x108.Bad, x108.Pages⟩ : Block)) ?hh]; case hh => exact rfl) | skip
        obtain ⟨y109, h_y109, h⟩ := callK_inv h
        rw [cl_eq hcl (L_spec_l00Src_one 2 y107.2 h_y109)]
        rotate_left
        · show _ = _; kernel_rfl
        · (try simp only [List.length_set, List.length_append, List.length_cons, List.length_nil, Nat.zero_add]); kernel_rfl
        conv => lhs; whnf
        cases hb110 : y109.1
        · replace h := ifF h (booF hb110); conv => lhs; whnf
          obtain ⟨y135, h_y135, h⟩ := callK_inv h
          rw [cl_eq hcl (L_spec_l00Src_one 20 y109.2 h_y135)]
          rotate_left
          · show _ = _; kernel_rfl
          · (try simp only [List.length_set, List.length_append, List.length_cons, List.length_nil, Nat.zero_add]); kernel_rfl
          conv => lhs; whnf
          cases hb136 : y135.1
          · replace h := ifF h (booF hb136); conv => lhs; whnf
            obtain ⟨y141, h_y141, h⟩ := callK_inv h
            rw [cl_eq hcl (L_spec_l00Src_one 20 y135.2 h_y141)]
            rotate_left
            · show _ = _; kernel_rfl
            · (try simp only [List.length_set, List.length_append, List.length_cons, List.length_nil, Nat.zero_add]); kernel_rfl
            conv => lhs; whnf
            cases hb142 : y141.1
            · replace h := ifF h (booF hb142); conv => lhs; whnf
              obtain rfl := Option.some.inj h
              try (conv => rhs; simp only [List.length_set, List.length_append, List.length_cons, List.length_nil, Nat.zero_add])
              try simp only [List.length_set]
              show _ = _; kernel_rfl
            · replace h := ifT h hb142; conv => lhs; whnf
              obtain ⟨y143, h_y143, h⟩ := callK_inv h
              rw [cl_eq hcl (L_spec_l00Src_among' y141.2 ([(-1), 9] : List Int) h_y143)]
              rotate_left
              · show _ = _; kernel_rfl
              · (try simp only [List.length_set, List.length_append, List.length_cons, List.length_nil, Nat.zero_add]); kernel_rfl
              conv => lhs; whnf
              obtain ⟨x144, hq_x144, hx_x144', h⟩ := getK_inv h
              have hx_x144 := get_of (r := rBlock) hx_x144'
              try (rw [decide_eq_true hq_x144]; conv => lhs; whnf)
              rw [hx_x144]
              conv => lhs; whnf
              rw [hx_x144]
              conv => lhs; whnf
              first | (rw [map_set_of (r := rBlock) (l := (v12.set (Int.toNat y106.1) (⟨y107.1, x108.Next, x108.Bad, x108.Pages⟩ : Block))) (x := (⟨x144.Erases, y143.1, x144.Bad, x144.Pages⟩ : Block)) ?hh]; case hh => exact rfl) | skip
              obtain rfl := Option.some.inj h
              try (conv => rhs; simp only [List.length_set, List.length_append, List.length_cons, List.length_nil, Nat.zero_add])
              try simp only [List.length_set]
              show _ = _; kernel_rfl
          · replace h := ifT h hb136; conv => lhs; whnf
            obtain ⟨y137, h_y137, h⟩ := callK_inv h
            rw [cl_eq hcl (L_spec_l00Src_one 20 y135.2 h_y137)]
            rotate_left
            · show _ = _; kernel_rfl
            · (try simp only [List.length_set, List.length_append, List.length_cons, List.length_nil, Nat.zero_add]); kernel_rfl
            conv => lhs; whnf
            cases hb138 : y137.1
            · replace h := ifF h (booF hb138); conv => lhs; whnf
              obtain rfl := Option.some.inj h
              try (conv => rhs; simp only [List.length_set, List.length_append, List.length_cons, List.length_nil, Nat.zero_add])
              try simp only [List.length_set]
              show _ = _; kernel_rfl
            · replace h := ifT h hb138; conv => lhs; whnf
              obtain ⟨y139, h_y139, h⟩ := callK_inv h
              rw [cl_eq hcl (L_spec_l00Src_among' y137.2 ([(-1), 9] : List Int) h_y139)]
              rotate_left
              · show _ = _; kernel_rfl
              · (try simp only [List.length_set, List.length_append, List.length_cons, List.length_nil, Nat.zero_add]); kernel_rfl
              conv => lhs; whnf
              obtain ⟨x140, hq_x140, hx_x140', h⟩ := getK_inv h
              have hx_x140 := get_of (r := rBlock) hx_x140'
              try (rw [decide_eq_true hq_x140]; conv => lhs; whnf)
              rw [hx_x140]
              conv => lhs; whnf
              rw [hx_x140]
              conv => lhs; whnf
              first | (rw [map_set_of (r := rBlock) (l := (v12.set (Int.toNat y106.1) (⟨y107.1, x108.Next, x108.Bad, x108.Pages⟩ : Block))) (x := (⟨x140.Erases, y139.1, x140.Bad, x140.Pages⟩ : Block)) ?hh]; case hh => exact rfl) | skip
              obtain rfl := Option.some.inj h
              try (conv => rhs; simp only [List.length_set, List.length_append, List.length_cons, List.length_nil, Nat.zero_add])
              try simp only [List.length_set]
              show _ = _; kernel_rfl
        · replace h := ifT h hb110; conv => lhs; whnf
          obtain ⟨y111, h_y111, h⟩ := callK_inv h
          rw [cl_eq hcl (L_spec_l00Src_pick 14 y109.2 h_y111)]
          rotate_left
          · show _ = _; kernel_rfl
          · (try simp only [List.length_set, List.length_append, List.length_cons, List.length_nil, Nat.zero_add]); kernel_rfl
          conv => lhs; whnf
          obtain ⟨y112, h_y112, h⟩ := callK_inv h
          rw [cl_eq hcl (L_spec_l00Src_among' y111.2 ([0, 3, 10, 91] : List Int) h_y112)]
          rotate_left
          · show _ = _; kernel_rfl
          · (try simp only [List.length_set, List.length_append, List.length_cons, List.length_nil, Nat.zero_add]); kernel_rfl
          conv => lhs; whnf
          obtain ⟨y113, h_y113, h⟩ := callK_inv h
          rw [cl_eq hcl (L_spec_ArmFuse v5 v6 v7 v8 v9 v10 v11 y111.1 y112.1 (v12.set (Int.toNat y106.1) (⟨y107.1, x108.Next, x108.Bad, x108.Pages⟩ : Block)) h_y113)]
          rotate_left
          · show _ = _; kernel_rfl
          · (try simp only [List.length_set, List.length_append, List.length_cons, List.length_nil, Nat.zero_add]); kernel_rfl
          conv => lhs; whnf
          cases hb114 : (y113.2.2.2.2.2.2.2.1 == 0)
          · replace h := ifF h (beqF hb114); conv => lhs; whnf
            obtain ⟨y125, h_y125, h⟩ := callK_inv h
            rw [cl_eq hcl (L_spec_l00Src_one 20 y112.2 h_y125)]
            rotate_left
            · show _ = _; kernel_rfl
            · show _ = _; kernel_rfl
            conv => lhs; whnf
            cases hb126 : y125.1
            · replace h := ifF h (booF hb126); conv => lhs; whnf
              obtain ⟨y131, h_y131, h⟩ := callK_inv h
              rw [cl_eq hcl (L_spec_l00Src_one 20 y125.2 h_y131)]
              rotate_left
              · show _ = _; kernel_rfl
              · show _ = _; kernel_rfl
              conv => lhs; whnf
              cases hb132 : y131.1
              · replace h := ifF h (booF hb132); conv => lhs; whnf
                obtain rfl := Option.some.inj h; show _ = _; kernel_rfl

              · replace h := ifT h hb132; conv => lhs; whnf
                obtain ⟨y133, h_y133, h⟩ := callK_inv h
                rw [cl_eq hcl (L_spec_l00Src_among' y131.2 ([(-1), 9] : List Int) h_y133)]
                rotate_left
                · show _ = _; kernel_rfl
                · show _ = _; kernel_rfl
                conv => lhs; whnf
                obtain ⟨x134, hq_x134, hx_x134', h⟩ := getK_inv h
                have hx_x134 := get_of (r := rBlock) hx_x134'
                try (rw [decide_eq_true hq_x134]; conv => lhs; whnf)
                rw [hx_x134]
                conv => lhs; whnf
                rw [hx_x134]
                conv => lhs; whnf
                first | (rw [map_set_of (r := rBlock) (l := (v12.set (Int.toNat y106.1) (⟨y107.1, x108.Next, x108.Bad, x108.Pages⟩ : Block))) (x := (⟨x134.Erases, y133.1, x134.Bad, x134.Pages⟩ : Block)) ?hh]; case hh => exact rfl) | skip
                obtain rfl := Option.some.inj h
                try (conv => rhs; simp only [List.length_set, List.length_append, List.length_cons, List.length_nil, Nat.zero_add])
                try simp only [List.length_set]
                show _ = _; kernel_rfl
            · replace h := ifT h hb126; conv => lhs; whnf
              obtain ⟨y127, h_y127, h⟩ := callK_inv h
              rw [cl_eq hcl (L_spec_l00Src_one 20 y125.2 h_y127)]
              rotate_left
              · show _ = _; kernel_rfl
              · show _ = _; kernel_rfl
              conv => lhs; whnf
              cases hb128 : y127.1
              · replace h := ifF h (booF hb128); conv => lhs; whnf
                obtain rfl := Option.some.inj h; show _ = _; kernel_rfl

              · replace h := ifT h hb128; conv => lhs; whnf
                obtain ⟨y129, h_y129, h⟩ := callK_inv h
                rw [cl_eq hcl (L_spec_l00Src_among' y127.2 ([(-1), 9] : List Int) h_y129)]
                rotate_left
                · show _ = _; kernel_rfl
                · show _ = _; kernel_rfl
                conv => lhs; whnf
                obtain ⟨x130, hq_x130, hx_x130', h⟩ := getK_inv h
                have hx_x130 := get_of (r := rBlock) hx_x130'
                try (rw [decide_eq_true hq_x130]; conv => lhs; whnf)
                rw [hx_x130]
                conv => lhs; whnf
                rw [hx_x130]
                conv => lhs; whnf
                first | (rw [map_set_of (r := rBlock) (l := (v12.set (Int.toNat y106.1) (⟨y107.1, x108.Next, x108.Bad, x108.Pages⟩ : Block))) (x := (⟨x130.Erases, y129.1, x130.Bad, x130.Pages⟩ : Block)) ?hh]; case hh => exact rfl) | skip
                obtain rfl := Option.some.inj h
                try (conv => rhs; simp only [List.length_set, List.length_append, List.length_cons, List.length_nil, Nat.zero_add])
                try simp only [List.length_set]
                show _ = _; kernel_rfl
          · replace h := ifT h (beqT hb114); conv => lhs; whnf
            obtain ⟨y115, h_y115, h⟩ := callK_inv h
            rw [cl_eq hcl (L_spec_l00Src_one 20 y112.2 h_y115)]
            rotate_left
            · show _ = _; kernel_rfl
            · show _ = _; kernel_rfl
            conv => lhs; whnf
            cases hb116 : y115.1
            · replace h := ifF h (booF hb116); conv => lhs; whnf
              obtain ⟨y121, h_y121, h⟩ := callK_inv h
              rw [cl_eq hcl (L_spec_l00Src_one 20 y115.2 h_y121)]
              rotate_left
              · show _ = _; kernel_rfl
              · show _ = _; kernel_rfl
              conv => lhs; whnf
              cases hb122 : y121.1
              · replace h := ifF h (booF hb122); conv => lhs; whnf
                obtain rfl := Option.some.inj h; show _ = _; kernel_rfl

              · replace h := ifT h hb122; conv => lhs; whnf
                obtain ⟨y123, h_y123, h⟩ := callK_inv h
                rw [cl_eq hcl (L_spec_l00Src_among' y121.2 ([(-1), 9] : List Int) h_y123)]
                rotate_left
                · show _ = _; kernel_rfl
                · show _ = _; kernel_rfl
                conv => lhs; whnf
                obtain ⟨x124, hq_x124, hx_x124', h⟩ := getK_inv h
                have hx_x124 := get_of (r := rBlock) hx_x124'
                try (rw [decide_eq_true hq_x124]; conv => lhs; whnf)
                rw [hx_x124]
                conv => lhs; whnf
                rw [hx_x124]
                conv => lhs; whnf
                first | (rw [map_set_of (r := rBlock) (l := y113.2.2.2.2.2.2.2.2) (x := (⟨x124.Erases, y123.1, x124.Bad, x124.Pages⟩ : Block)) ?hh]; case hh => exact rfl) | skip
                obtain rfl := Option.some.inj h
                try (conv => rhs; simp only [List.length_set, List.length_append, List.length_cons, List.length_nil, Nat.zero_add])
                try simp only [List.length_set]
                show _ = _; kernel_rfl
            · replace h := ifT h hb116; conv => lhs; whnf
              obtain ⟨y117, h_y117, h⟩ := callK_inv h
              rw [cl_eq hcl (L_spec_l00Src_one 20 y115.2 h_y117)]
              rotate_left
              · show _ = _; kernel_rfl
              · show _ = _; kernel_rfl
              conv => lhs; whnf
              cases hb118 : y117.1
              · replace h := ifF h (booF hb118); conv => lhs; whnf
                obtain rfl := Option.some.inj h; show _ = _; kernel_rfl

              · replace h := ifT h hb118; conv => lhs; whnf
                obtain ⟨y119, h_y119, h⟩ := callK_inv h
                rw [cl_eq hcl (L_spec_l00Src_among' y117.2 ([(-1), 9] : List Int) h_y119)]
                rotate_left
                · show _ = _; kernel_rfl
                · show _ = _; kernel_rfl
                conv => lhs; whnf
                obtain ⟨x120, hq_x120, hx_x120', h⟩ := getK_inv h
                have hx_x120 := get_of (r := rBlock) hx_x120'
                try (rw [decide_eq_true hq_x120]; conv => lhs; whnf)
                rw [hx_x120]
                conv => lhs; whnf
                rw [hx_x120]
                conv => lhs; whnf
                first | (rw [map_set_of (r := rBlock) (l := y113.2.2.2.2.2.2.2.2) (x := (⟨x120.Erases, y119.1, x120.Bad, x120.Pages⟩ : Block)) ?hh]; case hh => exact rfl) | skip
                obtain rfl := Option.some.inj h
                try (conv => rhs; simp only [List.length_set, List.length_append, List.length_cons, List.length_nil, Nat.zero_add])
                try simp only [List.length_set]
                show _ = _; kernel_rfl
    · replace h := ifT h hb24; conv => lhs; whnf
      obtain ⟨y25, h_y25, h⟩ := callK_inv h
      rw [cl_eq hcl (L_spec_l00Src_pick 8 y23.2 h_y25)]
      rotate_left
      · show _ = _; kernel_rfl
      · show _ = _; kernel_rfl
      conv => lhs; whnf
      obtain ⟨x26, hq_x26, hx_x26', h⟩ := getK_inv h
      have hx_x26 := get_of (r := rBlock) hx_x26'
      try (rw [decide_eq_true hq_x26]; conv => lhs; whnf)
      rw [hx_x26]
      conv => lhs; whnf
      rw [hx_x26]
      conv => lhs; whnf
      first | (rw [map_set_of (r := rBlock) (l := v12) (x := (⟨x26.Erases, x26.Next, true, x26.Pages⟩ : Block)) ?hh]; case hh => exact rfl) | skip
      obtain ⟨y27, h_y27, h⟩ := callK_inv h
      rw [cl_eq hcl (L_spec_l00Src_one 6 y25.2 h_y27)]
      rotate_left
      · show _ = _; kernel_rfl
      · (try simp only [List.length_set, List.length_append, List.length_cons, List.length_nil, Nat.zero_add]); kernel_rfl
      conv => lhs; whnf
      cases hb28 : y27.1
      · replace h := ifF h (booF hb28); conv => lhs; whnf
        obtain ⟨y68, h_y68, h⟩ := callK_inv h
        rw [cl_eq hcl (L_spec_l00Src_one 2 y27.2 h_y68)]
        rotate_left
        · show _ = _; kernel_rfl
        · (try simp only [List.length_set, List.length_append, List.length_cons, List.length_nil, Nat.zero_add]); kernel_rfl
        conv => lhs; whnf
        cases hb69 : y68.1
        · replace h := ifF h (booF hb69); conv => lhs; whnf
          obtain ⟨y94, h_y94, h⟩ := callK_inv h
          rw [cl_eq hcl (L_spec_l00Src_one 20 y68.2 h_y94)]
          rotate_left
          · show _ = _; kernel_rfl
          · (try simp only [List.length_set, List.length_append, List.length_cons, List.length_nil, Nat.zero_add]); kernel_rfl
          conv => lhs; whnf
          cases hb95 : y94.1
          · replace h := ifF h (booF hb95); conv => lhs; whnf
            obtain ⟨y100, h_y100, h⟩ := callK_inv h
            rw [cl_eq hcl (L_spec_l00Src_one 20 y94.2 h_y100)]
            rotate_left
            · show _ = _; kernel_rfl
            · (try simp only [List.length_set, List.length_append, List.length_cons, List.length_nil, Nat.zero_add]); kernel_rfl
            conv => lhs; whnf
            cases hb101 : y100.1
            · replace h := ifF h (booF hb101); conv => lhs; whnf
              obtain rfl := Option.some.inj h
              try (conv => rhs; simp only [List.length_set, List.length_append, List.length_cons, List.length_nil, Nat.zero_add])
              try simp only [List.length_set]
              show _ = _; kernel_rfl
            · replace h := ifT h hb101; conv => lhs; whnf
              obtain ⟨y102, h_y102, h⟩ := callK_inv h
              rw [cl_eq hcl (L_spec_l00Src_among' y100.2 ([(-1), 9] : List Int) h_y102)]
              rotate_left
              · show _ = _; kernel_rfl
              · (try simp only [List.length_set, List.length_append, List.length_cons, List.length_nil, Nat.zero_add]); kernel_rfl
              conv => lhs; whnf
              obtain ⟨x103, hq_x103, hx_x103', h⟩ := getK_inv h
              have hx_x103 := get_of (r := rBlock) hx_x103'
              try (rw [decide_eq_true hq_x103]; conv => lhs; whnf)
              rw [hx_x103]
              conv => lhs; whnf
              rw [hx_x103]
              conv => lhs; whnf
              first | (rw [map_set_of (r := rBlock) (l := (v12.set (Int.toNat y25.1) (⟨x26.Erases, x26.Next, true, x26.Pages⟩ : Block))) (x := (⟨x103.Erases, y102.1, x103.Bad, x103.Pages⟩ : Block)) ?hh]; case hh => exact rfl) | skip
              obtain rfl := Option.some.inj h
              try (conv => rhs; simp only [List.length_set, List.length_append, List.length_cons, List.length_nil, Nat.zero_add])
              try simp only [List.length_set]
              show _ = _; kernel_rfl
          · replace h := ifT h hb95; conv => lhs; whnf
            obtain ⟨y96, h_y96, h⟩ := callK_inv h
            rw [cl_eq hcl (L_spec_l00Src_one 20 y94.2 h_y96)]
            rotate_left
            · show _ = _; kernel_rfl
            · (try simp only [List.length_set, List.length_append, List.length_cons, List.length_nil, Nat.zero_add]); kernel_rfl
            conv => lhs; whnf
            cases hb97 : y96.1
            · replace h := ifF h (booF hb97); conv => lhs; whnf
              obtain rfl := Option.some.inj h
              try (conv => rhs; simp only [List.length_set, List.length_append, List.length_cons, List.length_nil, Nat.zero_add])
              try simp only [List.length_set]
              show _ = _; kernel_rfl
            · replace h := ifT h hb97; conv => lhs; whnf
              obtain ⟨y98, h_y98, h⟩ := callK_inv h
              rw [cl_eq hcl (L_spec_l00Src_among' y96.2 ([(-1), 9] : List Int) h_y98)]
              rotate_left
              · show _ = _; kernel_rfl
              · (try simp only [List.length_set, List.length_append, List.length_cons, List.length_nil, Nat.zero_add]); kernel_rfl
              conv => lhs; whnf
              obtain ⟨x99, hq_x99, hx_x99', h⟩ := getK_inv h
              have hx_x99 := get_of (r := rBlock) hx_x99'
              try (rw [decide_eq_true hq_x99]; conv => lhs; whnf)
              rw [hx_x99]
              conv => lhs; whnf
              rw [hx_x99]
              conv => lhs; whnf
              first | (rw [map_set_of (r := rBlock) (l := (v12.set (Int.toNat y25.1) (⟨x26.Erases, x26.Next, true, x26.Pages⟩ : Block))) (x := (⟨x99.Erases, y98.1, x99.Bad, x99.Pages⟩ : Block)) ?hh]; case hh => exact rfl) | skip
              obtain rfl := Option.some.inj h
              try (conv => rhs; simp only [List.length_set, List.length_append, List.length_cons, List.length_nil, Nat.zero_add])
              try simp only [List.length_set]
              show _ = _; kernel_rfl
        · replace h := ifT h hb69; conv => lhs; whnf
          obtain ⟨y70, h_y70, h⟩ := callK_inv h
          rw [cl_eq hcl (L_spec_l00Src_pick 14 y68.2 h_y70)]
          rotate_left
          · show _ = _; kernel_rfl
          · (try simp only [List.length_set, List.length_append, List.length_cons, List.length_nil, Nat.zero_add]); kernel_rfl
          conv => lhs; whnf
          obtain ⟨y71, h_y71, h⟩ := callK_inv h
          rw [cl_eq hcl (L_spec_l00Src_among' y70.2 ([0, 3, 10, 91] : List Int) h_y71)]
          rotate_left
          · show _ = _; kernel_rfl
          · (try simp only [List.length_set, List.length_append, List.length_cons, List.length_nil, Nat.zero_add]); kernel_rfl
          conv => lhs; whnf
          obtain ⟨y72, h_y72, h⟩ := callK_inv h
          rw [cl_eq hcl (L_spec_ArmFuse v5 v6 v7 v8 v9 v10 v11 y70.1 y71.1 (v12.set (Int.toNat y25.1) (⟨x26.Erases, x26.Next, true, x26.Pages⟩ : Block)) h_y72)]
          rotate_left
          · show _ = _; kernel_rfl
          · (try simp only [List.length_set, List.length_append, List.length_cons, List.length_nil, Nat.zero_add]); kernel_rfl
          conv => lhs; whnf
          cases hb73 : (y72.2.2.2.2.2.2.2.1 == 0)
          · replace h := ifF h (beqF hb73); conv => lhs; whnf
            obtain ⟨y84, h_y84, h⟩ := callK_inv h
            rw [cl_eq hcl (L_spec_l00Src_one 20 y71.2 h_y84)]
            rotate_left
            · show _ = _; kernel_rfl
            · show _ = _; kernel_rfl
            conv => lhs; whnf
            cases hb85 : y84.1
            · replace h := ifF h (booF hb85); conv => lhs; whnf
              obtain ⟨y90, h_y90, h⟩ := callK_inv h
              rw [cl_eq hcl (L_spec_l00Src_one 20 y84.2 h_y90)]
              rotate_left
              · show _ = _; kernel_rfl
              · show _ = _; kernel_rfl
              conv => lhs; whnf
              cases hb91 : y90.1
              · replace h := ifF h (booF hb91); conv => lhs; whnf
                obtain rfl := Option.some.inj h; show _ = _; kernel_rfl

              · replace h := ifT h hb91; conv => lhs; whnf
                obtain ⟨y92, h_y92, h⟩ := callK_inv h
                rw [cl_eq hcl (L_spec_l00Src_among' y90.2 ([(-1), 9] : List Int) h_y92)]
                rotate_left
                · show _ = _; kernel_rfl
                · show _ = _; kernel_rfl
                conv => lhs; whnf
                obtain ⟨x93, hq_x93, hx_x93', h⟩ := getK_inv h
                have hx_x93 := get_of (r := rBlock) hx_x93'
                try (rw [decide_eq_true hq_x93]; conv => lhs; whnf)
                rw [hx_x93]
                conv => lhs; whnf
                rw [hx_x93]
                conv => lhs; whnf
                first | (rw [map_set_of (r := rBlock) (l := (v12.set (Int.toNat y25.1) (⟨x26.Erases, x26.Next, true, x26.Pages⟩ : Block))) (x := (⟨x93.Erases, y92.1, x93.Bad, x93.Pages⟩ : Block)) ?hh]; case hh => exact rfl) | skip
                obtain rfl := Option.some.inj h
                try (conv => rhs; simp only [List.length_set, List.length_append, List.length_cons, List.length_nil, Nat.zero_add])
                try simp only [List.length_set]
                show _ = _; kernel_rfl
            · replace h := ifT h hb85; conv => lhs; whnf
              obtain ⟨y86, h_y86, h⟩ := callK_inv h
              rw [cl_eq hcl (L_spec_l00Src_one 20 y84.2 h_y86)]
              rotate_left
              · show _ = _; kernel_rfl
              · show _ = _; kernel_rfl
              conv => lhs; whnf
              cases hb87 : y86.1
              · replace h := ifF h (booF hb87); conv => lhs; whnf
                obtain rfl := Option.some.inj h; show _ = _; kernel_rfl

              · replace h := ifT h hb87; conv => lhs; whnf
                obtain ⟨y88, h_y88, h⟩ := callK_inv h
                rw [cl_eq hcl (L_spec_l00Src_among' y86.2 ([(-1), 9] : List Int) h_y88)]
                rotate_left
                · show _ = _; kernel_rfl
                · show _ = _; kernel_rfl
                conv => lhs; whnf
                obtain ⟨x89, hq_x89, hx_x89', h⟩ := getK_inv h
                have hx_x89 := get_of (r := rBlock) hx_x89'
                try (rw [decide_eq_true hq_x89]; conv => lhs; whnf)
                rw [hx_x89]
                conv => lhs; whnf
                rw [hx_x89]
                conv => lhs; whnf
                first | (rw [map_set_of (r := rBlock) (l := (v12.set (Int.toNat y25.1) (⟨x26.Erases, x26.Next, true, x26.Pages⟩ : Block))) (x := (⟨x89.Erases, y88.1, x89.Bad, x89.Pages⟩ : Block)) ?hh]; case hh => exact rfl) | skip
                obtain rfl := Option.some.inj h
                try (conv => rhs; simp only [List.length_set, List.length_append, List.length_cons, List.length_nil, Nat.zero_add])
                try simp only [List.length_set]
                show _ = _; kernel_rfl
          · replace h := ifT h (beqT hb73); conv => lhs; whnf
            obtain ⟨y74, h_y74, h⟩ := callK_inv h
            rw [cl_eq hcl (L_spec_l00Src_one 20 y71.2 h_y74)]
            rotate_left
            · show _ = _; kernel_rfl
            · show _ = _; kernel_rfl
            conv => lhs; whnf
            cases hb75 : y74.1
            · replace h := ifF h (booF hb75); conv => lhs; whnf
              obtain ⟨y80, h_y80, h⟩ := callK_inv h
              rw [cl_eq hcl (L_spec_l00Src_one 20 y74.2 h_y80)]
              rotate_left
              · show _ = _; kernel_rfl
              · show _ = _; kernel_rfl
              conv => lhs; whnf
              cases hb81 : y80.1
              · replace h := ifF h (booF hb81); conv => lhs; whnf
                obtain rfl := Option.some.inj h; show _ = _; kernel_rfl

              · replace h := ifT h hb81; conv => lhs; whnf
                obtain ⟨y82, h_y82, h⟩ := callK_inv h
                rw [cl_eq hcl (L_spec_l00Src_among' y80.2 ([(-1), 9] : List Int) h_y82)]
                rotate_left
                · show _ = _; kernel_rfl
                · show _ = _; kernel_rfl
                conv => lhs; whnf
                obtain ⟨x83, hq_x83, hx_x83', h⟩ := getK_inv h
                have hx_x83 := get_of (r := rBlock) hx_x83'
                try (rw [decide_eq_true hq_x83]; conv => lhs; whnf)
                rw [hx_x83]
                conv => lhs; whnf
                rw [hx_x83]
                conv => lhs; whnf
                first | (rw [map_set_of (r := rBlock) (l := y72.2.2.2.2.2.2.2.2) (x := (⟨x83.Erases, y82.1, x83.Bad, x83.Pages⟩ : Block)) ?hh]; case hh => exact rfl) | skip
                obtain rfl := Option.some.inj h
                try (conv => rhs; simp only [List.length_set, List.length_append, List.length_cons, List.length_nil, Nat.zero_add])
                try simp only [List.length_set]
                show _ = _; kernel_rfl
            · replace h := ifT h hb75; conv => lhs; whnf
              obtain ⟨y76, h_y76, h⟩ := callK_inv h
              rw [cl_eq hcl (L_spec_l00Src_one 20 y74.2 h_y76)]
              rotate_left
              · show _ = _; kernel_rfl
              · show _ = _; kernel_rfl
              conv => lhs; whnf
              cases hb77 : y76.1
              · replace h := ifF h (booF hb77); conv => lhs; whnf
                obtain rfl := Option.some.inj h; show _ = _; kernel_rfl

              · replace h := ifT h hb77; conv => lhs; whnf
                obtain ⟨y78, h_y78, h⟩ := callK_inv h
                rw [cl_eq hcl (L_spec_l00Src_among' y76.2 ([(-1), 9] : List Int) h_y78)]
                rotate_left
                · show _ = _; kernel_rfl
                · show _ = _; kernel_rfl
                conv => lhs; whnf
                obtain ⟨x79, hq_x79, hx_x79', h⟩ := getK_inv h
                have hx_x79 := get_of (r := rBlock) hx_x79'
                try (rw [decide_eq_true hq_x79]; conv => lhs; whnf)
                rw [hx_x79]
                conv => lhs; whnf
                rw [hx_x79]
                conv => lhs; whnf
                first | (rw [map_set_of (r := rBlock) (l := y72.2.2.2.2.2.2.2.2) (x := (⟨x79.Erases, y78.1, x79.Bad, x79.Pages⟩ : Block)) ?hh]; case hh => exact rfl) | skip
                obtain rfl := Option.some.inj h
                try (conv => rhs; simp only [List.length_set, List.length_append, List.length_cons, List.length_nil, Nat.zero_add])
                try simp only [List.length_set]
                show _ = _; kernel_rfl
      · replace h := ifT h hb28; conv => lhs; whnf
        obtain ⟨y29, h_y29, h⟩ := callK_inv h
        rw [cl_eq hcl (L_spec_l00Src_pick 8 y27.2 h_y29)]
        rotate_left
        · show _ = _; kernel_rfl
        · (try simp only [List.length_set, List.length_append, List.length_cons, List.length_nil, Nat.zero_add]); kernel_rfl
        conv => lhs; whnf
        obtain ⟨y30, h_y30, h⟩ := callK_inv h
        rw [cl_eq hcl (L_spec_l00Src_among' y29.2 ([1000, 999, 998] : List Int) h_y30)]
        rotate_left
        · show _ = _; kernel_rfl
        · (try simp only [List.length_set, List.length_append, List.length_cons, List.length_nil, Nat.zero_add]); kernel_rfl
        conv => lhs; whnf
        obtain ⟨x31, hq_x31, hx_x31', h⟩ := getK_inv h
        have hx_x31 := get_of (r := rBlock) hx_x31'
        try (rw [decide_eq_true hq_x31]; conv => lhs; whnf)
        rw [hx_x31]
        conv => lhs; whnf
        rw [hx_x31]
        conv => lhs; whnf
        first | (rw [map_set_of (r := rBlock) (l := (v12.set (Int.toNat y25.1) (⟨x26.Erases, x26.Next, true, x26.Pages⟩ : Block))) (x := (⟨y30.1, x31.Next, x31.Bad, x31.Pages⟩ : Block)) ?hh]; case hh => exact rfl) | skip
        obtain ⟨y32, h_y32, h⟩ := callK_inv h
        rw [cl_eq hcl (L_spec_l00Src_one 2 y30.2 h_y32)]
        rotate_left
        · show _ = _; kernel_rfl
        · (try simp only [List.length_set, List.length_append, List.length_cons, List.length_nil, Nat.zero_add]); kernel_rfl
        conv => lhs; whnf
        cases hb33 : y32.1
        · replace h := ifF h (booF hb33); conv => lhs; whnf
          obtain ⟨y58, h_y58, h⟩ := callK_inv h
          rw [cl_eq hcl (L_spec_l00Src_one 20 y32.2 h_y58)]
          rotate_left
          · show _ = _; kernel_rfl
          · (try simp only [List.length_set, List.length_append, List.length_cons, List.length_nil, Nat.zero_add]); kernel_rfl
          conv => lhs; whnf
          cases hb59 : y58.1
          · replace h := ifF h (booF hb59); conv => lhs; whnf
            obtain ⟨y64, h_y64, h⟩ := callK_inv h
            rw [cl_eq hcl (L_spec_l00Src_one 20 y58.2 h_y64)]
            rotate_left
            · show _ = _; kernel_rfl
            · (try simp only [List.length_set, List.length_append, List.length_cons, List.length_nil, Nat.zero_add]); kernel_rfl
            conv => lhs; whnf
            cases hb65 : y64.1
            · replace h := ifF h (booF hb65); conv => lhs; whnf
              obtain rfl := Option.some.inj h
              try (conv => rhs; simp only [List.length_set, List.length_append, List.length_cons, List.length_nil, Nat.zero_add])
              try simp only [List.length_set]
              show _ = _; kernel_rfl
            · replace h := ifT h hb65; conv => lhs; whnf
              obtain ⟨y66, h_y66, h⟩ := callK_inv h
              rw [cl_eq hcl (L_spec_l00Src_among' y64.2 ([(-1), 9] : List Int) h_y66)]
              rotate_left
              · show _ = _; kernel_rfl
              · (try simp only [List.length_set, List.length_append, List.length_cons, List.length_nil, Nat.zero_add]); kernel_rfl
              conv => lhs; whnf
              obtain ⟨x67, hq_x67, hx_x67', h⟩ := getK_inv h
              have hx_x67 := get_of (r := rBlock) hx_x67'
              try (rw [decide_eq_true hq_x67]; conv => lhs; whnf)
              rw [hx_x67]
              conv => lhs; whnf
              rw [hx_x67]
              conv => lhs; whnf
              first | (rw [map_set_of (r := rBlock) (l := ((v12.set (Int.toNat y25.1) (⟨x26.Erases, x26.Next, true, x26.Pages⟩ : Block)).set (Int.toNat y29.1) (⟨y30.1, x31.Next, x31.Bad, x31.Pages⟩ : Block))) (x := (⟨x67.Erases, y66.1, x67.Bad, x67.Pages⟩ : Block)) ?hh]; case hh => exact rfl) | skip
              obtain rfl := Option.some.inj h
              try (conv => rhs; simp only [List.length_set, List.length_append, List.length_cons, List.length_nil, Nat.zero_add])
              try simp only [List.length_set]
              show _ = _; kernel_rfl
          · replace h := ifT h hb59; conv => lhs; whnf
            obtain ⟨y60, h_y60, h⟩ := callK_inv h
            rw [cl_eq hcl (L_spec_l00Src_one 20 y58.2 h_y60)]
            rotate_left
            · show _ = _; kernel_rfl
            · (try simp only [List.length_set, List.length_append, List.length_cons, List.length_nil, Nat.zero_add]); kernel_rfl
            conv => lhs; whnf
            cases hb61 : y60.1
            · replace h := ifF h (booF hb61); conv => lhs; whnf
              obtain rfl := Option.some.inj h
              try (conv => rhs; simp only [List.length_set, List.length_append, List.length_cons, List.length_nil, Nat.zero_add])
              try simp only [List.length_set]
              show _ = _; kernel_rfl
            · replace h := ifT h hb61; conv => lhs; whnf
              obtain ⟨y62, h_y62, h⟩ := callK_inv h
              rw [cl_eq hcl (L_spec_l00Src_among' y60.2 ([(-1), 9] : List Int) h_y62)]
              rotate_left
              · show _ = _; kernel_rfl
              · (try simp only [List.length_set, List.length_append, List.length_cons, List.length_nil, Nat.zero_add]); kernel_rfl
              conv => lhs; whnf
              obtain ⟨x63, hq_x63, hx_x63', h⟩ := getK_inv h
              have hx_x63 := get_of (r := rBlock) hx_x63'
              try (rw [decide_eq_true hq_x63]; conv => lhs; whnf)
              rw [hx_x63]
              conv => lhs; whnf
              rw [hx_x63]
              conv => lhs; whnf
              first | (rw [map_set_of (r := rBlock) (l := ((v12.set (Int.toNat y25.1) (⟨x26.Erases, x26.Next, true, x26.Pages⟩ : Block)).set (Int.toNat y29.1) (⟨y30.1, x31.Next, x31.Bad, x31.Pages⟩ : Block))) (x := (⟨x63.Erases, y62.1, x63.Bad, x63.Pages⟩ : Block)) ?hh]; case hh => exact rfl) | skip
              obtain rfl := Option.some.inj h
              try (conv => rhs; simp only [List.length_set, List.length_append, List.length_cons, List.length_nil, Nat.zero_add])
              try simp only [List.length_set]
              show _ = _; kernel_rfl
        · replace h := ifT h hb33; conv => lhs; whnf
          obtain ⟨y34, h_y34, h⟩ := callK_inv h
          rw [cl_eq hcl (L_spec_l00Src_pick 14 y32.2 h_y34)]
          rotate_left
          · show _ = _; kernel_rfl
          · (try simp only [List.length_set, List.length_append, List.length_cons, List.length_nil, Nat.zero_add]); kernel_rfl
          conv => lhs; whnf
          obtain ⟨y35, h_y35, h⟩ := callK_inv h
          rw [cl_eq hcl (L_spec_l00Src_among' y34.2 ([0, 3, 10, 91] : List Int) h_y35)]
          rotate_left
          · show _ = _; kernel_rfl
          · (try simp only [List.length_set, List.length_append, List.length_cons, List.length_nil, Nat.zero_add]); kernel_rfl
          conv => lhs; whnf
          obtain ⟨y36, h_y36, h⟩ := callK_inv h
          rw [cl_eq hcl (L_spec_ArmFuse v5 v6 v7 v8 v9 v10 v11 y34.1 y35.1 ((v12.set (Int.toNat y25.1) (⟨x26.Erases, x26.Next, true, x26.Pages⟩ : Block)).set (Int.toNat y29.1) (⟨y30.1, x31.Next, x31.Bad, x31.Pages⟩ : Block)) h_y36)]
          rotate_left
          · show _ = _; kernel_rfl
          · (try simp only [List.length_set, List.length_append, List.length_cons, List.length_nil, Nat.zero_add]); kernel_rfl
          conv => lhs; whnf
          cases hb37 : (y36.2.2.2.2.2.2.2.1 == 0)
          · replace h := ifF h (beqF hb37); conv => lhs; whnf
            obtain ⟨y48, h_y48, h⟩ := callK_inv h
            rw [cl_eq hcl (L_spec_l00Src_one 20 y35.2 h_y48)]
            rotate_left
            · show _ = _; kernel_rfl
            · show _ = _; kernel_rfl
            conv => lhs; whnf
            cases hb49 : y48.1
            · replace h := ifF h (booF hb49); conv => lhs; whnf
              obtain ⟨y54, h_y54, h⟩ := callK_inv h
              rw [cl_eq hcl (L_spec_l00Src_one 20 y48.2 h_y54)]
              rotate_left
              · show _ = _; kernel_rfl
              · show _ = _; kernel_rfl
              conv => lhs; whnf
              cases hb55 : y54.1
              · replace h := ifF h (booF hb55); conv => lhs; whnf
                obtain rfl := Option.some.inj h; show _ = _; kernel_rfl

              · replace h := ifT h hb55; conv => lhs; whnf
                obtain ⟨y56, h_y56, h⟩ := callK_inv h
                rw [cl_eq hcl (L_spec_l00Src_among' y54.2 ([(-1), 9] : List Int) h_y56)]
                rotate_left
                · show _ = _; kernel_rfl
                · show _ = _; kernel_rfl
                conv => lhs; whnf
                obtain ⟨x57, hq_x57, hx_x57', h⟩ := getK_inv h
                have hx_x57 := get_of (r := rBlock) hx_x57'
                try (rw [decide_eq_true hq_x57]; conv => lhs; whnf)
                rw [hx_x57]
                conv => lhs; whnf
                rw [hx_x57]
                conv => lhs; whnf
                first | (rw [map_set_of (r := rBlock) (l := ((v12.set (Int.toNat y25.1) (⟨x26.Erases, x26.Next, true, x26.Pages⟩ : Block)).set (Int.toNat y29.1) (⟨y30.1, x31.Next, x31.Bad, x31.Pages⟩ : Block))) (x := (⟨x57.Erases, y56.1, x57.Bad, x57.Pages⟩ : Block)) ?hh]; case hh => exact rfl) | skip
                obtain rfl := Option.some.inj h
                try (conv => rhs; simp only [List.length_set, List.length_append, List.length_cons, List.length_nil, Nat.zero_add])
                try simp only [List.length_set]
                show _ = _; kernel_rfl
            · replace h := ifT h hb49; conv => lhs; whnf
              obtain ⟨y50, h_y50, h⟩ := callK_inv h
              rw [cl_eq hcl (L_spec_l00Src_one 20 y48.2 h_y50)]
              rotate_left
              · show _ = _; kernel_rfl
              · show _ = _; kernel_rfl
              conv => lhs; whnf
              cases hb51 : y50.1
              · replace h := ifF h (booF hb51); conv => lhs; whnf
                obtain rfl := Option.some.inj h; show _ = _; kernel_rfl

              · replace h := ifT h hb51; conv => lhs; whnf
                obtain ⟨y52, h_y52, h⟩ := callK_inv h
                rw [cl_eq hcl (L_spec_l00Src_among' y50.2 ([(-1), 9] : List Int) h_y52)]
                rotate_left
                · show _ = _; kernel_rfl
                · show _ = _; kernel_rfl
                conv => lhs; whnf
                obtain ⟨x53, hq_x53, hx_x53', h⟩ := getK_inv h
                have hx_x53 := get_of (r := rBlock) hx_x53'
                try (rw [decide_eq_true hq_x53]; conv => lhs; whnf)
                rw [hx_x53]
                conv => lhs; whnf
                rw [hx_x53]
                conv => lhs; whnf
                first | (rw [map_set_of (r := rBlock) (l := ((v12.set (Int.toNat y25.1) (⟨x26.Erases, x26.Next, true, x26.Pages⟩ : Block)).set (Int.toNat y29.1) (⟨y30.1, x31.Next, x31.Bad, x31.Pages⟩ : Block))) (x := (⟨x53.Erases, y52.1, x53.Bad, x53.Pages⟩ : Block)) ?hh]; case hh => exact rfl) | skip
                obtain rfl := Option.some.inj h
                try (conv => rhs; simp only [List.length_set, List.length_append, List.length_cons, List.length_nil, Nat.zero_add])
                try simp only [List.length_set]
                show _ = _; kernel_rfl
          · replace h := ifT h (beqT hb37); conv => lhs; whnf
            obtain ⟨y38, h_y38, h⟩ := callK_inv h
            rw [cl_eq hcl (L_spec_l00Src_one 20 y35.2 h_y38)]
            rotate_left
            · show _ = _; kernel_rfl
            · show _ = _; kernel_rfl
            conv => lhs; whnf
            cases hb39 : y38.1
            · replace h := ifF h (booF hb39); conv => lhs; whnf
              obtain ⟨y44, h_y44, h⟩ := callK_inv h
              rw [cl_eq hcl (L_spec_l00Src_one 20 y38.2 h_y44)]
              rotate_left
              · show _ = _; kernel_rfl
              · show _ = _; kernel_rfl
              conv => lhs; whnf
              cases hb45 : y44.1
              · replace h := ifF h (booF hb45); conv => lhs; whnf
                obtain rfl := Option.some.inj h; show _ = _; kernel_rfl

              · replace h := ifT h hb45; conv => lhs; whnf
                obtain ⟨y46, h_y46, h⟩ := callK_inv h
                rw [cl_eq hcl (L_spec_l00Src_among' y44.2 ([(-1), 9] : List Int) h_y46)]
                rotate_left
                · show _ = _; kernel_rfl
                · show _ = _; kernel_rfl
                conv => lhs; whnf
                obtain ⟨x47, hq_x47, hx_x47', h⟩ := getK_inv h
                have hx_x47 := get_of (r := rBlock) hx_x47'
                try (rw [decide_eq_true hq_x47]; conv => lhs; whnf)
                rw [hx_x47]
                conv => lhs; whnf
                rw [hx_x47]
                conv => lhs; whnf
                first | (rw [map_set_of (r := rBlock) (l := y36.2.2.2.2.2.2.2.2) (x := (⟨x47.Erases, y46.1, x47.Bad, x47.Pages⟩ : Block)) ?hh]; case hh => exact rfl) | skip
                obtain rfl := Option.some.inj h
                try (conv => rhs; simp only [List.length_set, List.length_append, List.length_cons, List.length_nil, Nat.zero_add])
                try simp only [List.length_set]
                show _ = _; kernel_rfl
            · replace h := ifT h hb39; conv => lhs; whnf
              obtain ⟨y40, h_y40, h⟩ := callK_inv h
              rw [cl_eq hcl (L_spec_l00Src_one 20 y38.2 h_y40)]
              rotate_left
              · show _ = _; kernel_rfl
              · show _ = _; kernel_rfl
              conv => lhs; whnf
              cases hb41 : y40.1
              · replace h := ifF h (booF hb41); conv => lhs; whnf
                obtain rfl := Option.some.inj h; show _ = _; kernel_rfl

              · replace h := ifT h hb41; conv => lhs; whnf
                obtain ⟨y42, h_y42, h⟩ := callK_inv h
                rw [cl_eq hcl (L_spec_l00Src_among' y40.2 ([(-1), 9] : List Int) h_y42)]
                rotate_left
                · show _ = _; kernel_rfl
                · show _ = _; kernel_rfl
                conv => lhs; whnf
                obtain ⟨x43, hq_x43, hx_x43', h⟩ := getK_inv h
                have hx_x43 := get_of (r := rBlock) hx_x43'
                try (rw [decide_eq_true hq_x43]; conv => lhs; whnf)
                rw [hx_x43]
                conv => lhs; whnf
                rw [hx_x43]
                conv => lhs; whnf
                first | (rw [map_set_of (r := rBlock) (l := y36.2.2.2.2.2.2.2.2) (x := (⟨x43.Erases, y42.1, x43.Bad, x43.Pages⟩ : Block)) ?hh]; case hh => exact rfl) | skip
                obtain rfl := Option.some.inj h
                try (conv => rhs; simp only [List.length_set, List.length_append, List.length_cons, List.length_nil, Nat.zero_add])
                try simp only [List.length_set]
                show _ = _; kernel_rfl
  · replace h := ifT h (decT hb14); conv => lhs; whnf
    obtain ⟨y15, h_y15, h⟩ := callK_inv h
    rw [cl_eq hcl (L_spec_l00Src_pick 8 v4 h_y15)]
    rotate_left
    · show _ = _; kernel_rfl
    · show _ = _; kernel_rfl
    conv => lhs; whnf
    obtain ⟨y16, h_y16, h⟩ := callK_inv h
    rw [cl_eq hcl (L_spec_l15Text 64 y15.2 h_y16)]
    rotate_left
    · show _ = _; kernel_rfl
    · show _ = _; kernel_rfl
    conv => lhs; whnf
    obtain ⟨y17, h_y17, h⟩ := callK_inv h
    rw [cl_eq hcl (L_spec_l15Text 16 y16.2 h_y17)]
    rotate_left
    · show _ = _; kernel_rfl
    · show _ = _; kernel_rfl
    conv => lhs; whnf
    obtain ⟨y18, h_y18, h⟩ := callK_inv h
    rw [cl_eq hcl (L_spec_l00Src_pick 100 y17.2 h_y18)]
    rotate_left
    · show _ = _; kernel_rfl
    · show _ = _; kernel_rfl
    conv => lhs; whnf
    obtain ⟨y19, h_y19, h⟩ := callK_inv h
    rw [cl_eq hcl (L_spec_SealPage y16.1 y17.1 y18.1 h_y19)]
    rotate_left
    · show _ = _; kernel_rfl
    · show _ = _; kernel_rfl
    conv => lhs; whnf
    obtain ⟨x20, hq_x20, hx_x20', h⟩ := getK_inv h
    have hx_x20 := get_of (r := rBlock) hx_x20'
    try (rw [decide_eq_true hq_x20]; conv => lhs; whnf)
    rw [hx_x20]
    conv => lhs; whnf
    rw [hx_x20]
    conv => lhs; whnf
    obtain ⟨y21, h_y21, h⟩ := callK_inv h
    rw [cl_eq hcl (L_spec_ProgramPage v5 v6 v7 v8 v9 v10 v11 y15.1 x20.Next y19.1 v12 h_y21)]
    rotate_left
    · show _ = _; kernel_rfl
    · show _ = _; kernel_rfl
    conv => lhs; whnf
    cases hb22 : (y21.2.2.2.2.2.2.2.1 == 0)
    · replace h := ifF h (beqF hb22); conv => lhs; whnf
      exact hnx13 _ _ _ _ (fun kk => by kernel_rfl) h
    · replace h := ifT h (beqT hb22); conv => lhs; whnf
      exact hnx13 _ _ _ _ (fun kk => by kernel_rfl) h

noncomputable def p_spec_l07Geo (a_0 : Sl00Src) : Option (Geometry × Sl00Src) :=
  callK (p_spec_l00Src_pick 2 a_0) fun y1 =>
  callK (p_spec_l00Src_pick 4 y1.2) fun y2 =>
  callK (p_spec_l00Src_one 20 y2.2) fun y3 =>
  if y3.1 = true then
    callK (p_spec_l00Src_among' y3.2 ([0, 12, 16] : List Int)) fun y5 =>
    some ((⟨(IntKind.i64.wrap (2 + y1.1)), (IntKind.i64.wrap (4 + y2.1)), y5.1⟩ : Geometry), y5.2)
  else
    some ((⟨(IntKind.i64.wrap (2 + y1.1)), (IntKind.i64.wrap (4 + y2.1)), 8⟩ : Geometry), y3.2)

set_option maxHeartbeats 4000000 in
theorem L_spec_l07Geo (a_0 : Sl00Src) {r : (Geometry × Sl00Src)} (h : p_spec_l07Geo a_0 = some r) : callL E 217 [.bp 0 0] ([some (.box [.d (.arr (a_0.Code.map rU)), IN a_0.At, .d (.lit (.int .u64 a_0.Seed))])] : Fo) = some (.agg [IN r.1.Dies, IN r.1.Blocks, IN r.1.Pages], ([some (.box [.d (.arr (r.2.Code.map rU)), IN r.2.At, .d (.lit (.int .u64 r.2.Seed))])] : Fo)) := by
  unfold p_spec_l07Geo at h
  refine callW (fu := Try.f217) rfl rfl rfl NN ?_
  intro lp cl hlp hcl
  conv => lhs; whnf
  obtain ⟨y1, h_y1, h⟩ := callK_inv h
  rw [cl_eq hcl (L_spec_l00Src_pick 2 a_0 h_y1)]
  rotate_left
  · show _ = _; kernel_rfl
  · show _ = _; kernel_rfl
  conv => lhs; whnf
  obtain ⟨y2, h_y2, h⟩ := callK_inv h
  rw [cl_eq hcl (L_spec_l00Src_pick 4 y1.2 h_y2)]
  rotate_left
  · show _ = _; kernel_rfl
  · show _ = _; kernel_rfl
  conv => lhs; whnf
  obtain ⟨y3, h_y3, h⟩ := callK_inv h
  rw [cl_eq hcl (L_spec_l00Src_one 20 y2.2 h_y3)]
  rotate_left
  · show _ = _; kernel_rfl
  · show _ = _; kernel_rfl
  conv => lhs; whnf
  cases hb4 : y3.1
  · replace h := ifF h (booF hb4); conv => lhs; whnf
    obtain rfl := Option.some.inj h; show _ = _; kernel_rfl

  · replace h := ifT h hb4; conv => lhs; whnf
    obtain ⟨y5, h_y5, h⟩ := callK_inv h
    rw [cl_eq hcl (L_spec_l00Src_among' y3.2 ([0, 12, 16] : List Int) h_y5)]
    rotate_left
    · show _ = _; kernel_rfl
    · show _ = _; kernel_rfl
    conv => lhs; whnf
    obtain rfl := Option.some.inj h; show _ = _; kernel_rfl


noncomputable def p_spec_l07Count (a_0 : Geometry) : Option Int :=
  some (IntKind.i64.wrap (a_0.Dies * a_0.Blocks))

set_option maxHeartbeats 4000000 in
theorem L_spec_l07Count (a_0 : Geometry) {r : Int} (h : p_spec_l07Count a_0 = some r) : callL E 218 [.agg [IN a_0.Dies, IN a_0.Blocks, IN a_0.Pages]] ([] : Fo) = some (IN r, ([] : Fo)) := by
  unfold p_spec_l07Count at h
  refine callW (fu := Try.f218) rfl rfl rfl NN ?_
  intro lp cl hlp hcl
  conv => lhs; whnf
  obtain rfl := Option.some.inj h; show _ = _; kernel_rfl


noncomputable def p_spec_l00Own (a_0 : List Int) : Option Unit :=
  grd (appOk (0 + a_0.length) 8 = true) <|
  some ()

set_option maxHeartbeats 4000000 in
theorem L_spec_l00Own (a_0 : List Int) {r : Unit} (h : p_spec_l00Own a_0 = some r) : callL E 121 [.sl 0] ([some (.arr 2 1 (a_0.map rI))] : Fo) = some (.sl 1, ([some (.arr 2 1 (a_0.map rI)), some (.arr 2 1 (a_0.map rI))] : Fo)) := by
  unfold p_spec_l00Own at h
  refine callW (fu := Try.f121) rfl rfl rfl NN ?_
  intro lp cl hlp hcl
  conv => lhs; whnf
  obtain ⟨hg1, h⟩ := grd_inv h
  rw [app_eq hg1 ?h1 ?h2]
  case h1 => first | exact rfl | (simp only [List.length_map, List.length_cons, List.length_nil]; done) | (rw [List.length_map]; rfl)
  case h2 => exact rfl
  conv => lhs; whnf
  rw [allLen_map rI _ rI_len]
  conv => lhs; whnf
  first | (rw [nil_app_of (r := rI) (m := a_0) ?hh]; case hh => exact rfl) | skip
  obtain rfl := Option.some.inj h; show _ = _; kernel_rfl


noncomputable def p_spec_l00Rises (a_0 : List Int) (a_1 : Int) (a_2 : Int) : Option Bool :=
  grd (a_0.length < 4611686018427387904) <|
  forK a_0 (fun (i8 : Nat) x10 (_ : Unit) (nx9 : Unit → Option _) =>
    if (inR x10 a_1 a_2) = true then
      if (i8 : Int) > 0 then
        getK a_0 (IntKind.i64.wrap ((i8 : Int) - 1)) fun x13 =>
        if x13 ≥ x10 then
          some false
        else
          nx9 ()
      else
        nx9 ()
    else
      some false) () (fun (_ : Unit) =>
    some true)

set_option maxHeartbeats 4000000 in
theorem L_spec_l00Rises (a_0 : List Int) (a_1 : Int) (a_2 : Int) {r : Bool} (h : p_spec_l00Rises a_0 a_1 a_2 = some r) : callL E 158 [.d (.arr (a_0.map rI)), IN a_1, IN a_2] ([] : Fo) = some (BO r, ([] : Fo)) := by
  unfold p_spec_l00Rises at h
  refine callW (fu := Try.f158) rfl rfl rfl NN ?_
  intro lp cl hlp hcl
  conv => lhs; whnf
  obtain ⟨hl_i8, h⟩ := grd_inv h
  refine loop_for hlp (l := a_0) hl_i8 (fun (i8 : Nat) (_ : Unit) => ([.d (.arr (a_0.map rI)), IN a_1, IN a_2, .dead, .dead, .dead, .dead, IN (i8 : Int)] ++ List.replicate 30 .dead : List V)) (fun (i8 : Nat) (_ : Unit) => ([] : Fo)) (fun (r : Bool) => ((BO r : V), ([] : Fo))) ?_ ?_ () _ (fun kk => by kernel_rfl) h
  · clear h
    rintro next_nx9 nx9 i8 hi_i8 hnx9 ⟨⟩ r h
    try dsimp only at h
    have hn_i8 : i8 < 4611686018427387904 := by omega
    have hx_x10 := get_map rI a_0 i8 hi_i8
    generalize a_0[i8] = x10 at h hx_x10
    have hd_i8 : (decide ((i8 : Int) < (a_0.length : Int))) = true := decide_eq_true (by omega)
    conv => lhs; whnf
    try rw [len_of (l := a_0) (r := rI)]
    try (first | rw [hd_i8] | (split; (first | (rename_i hx; exact absurd (hd_i8.symm.trans hx) (by decide)) | (rotate_left; rename_i hx; exact absurd (hd_i8.symm.trans hx) (by decide)))))
    conv => lhs; whnf
    try (rw [decide_eq_true hq_x10]; conv => lhs; whnf)
    rw [hx_x10]
    conv => lhs; whnf
    rw [hx_x10]
    conv => lhs; whnf
    rw [cl_eq hcl (L_spec_l00In x10 a_1 a_2 (pl_l00In x10 a_1 a_2))]
    rotate_left
    · show _ = _; kernel_rfl
    · show _ = _; kernel_rfl
    conv => lhs; whnf
    cases hb11 : (inR x10 a_1 a_2)
    · replace h := ifF h (booF hb11); conv => lhs; whnf
      try (rw [hb11]; conv => lhs; whnf)
      try (rw [hb11]; conv => lhs; whnf)
      try (rw [hb11]; conv => lhs; whnf)
      try (rw [hb11]; conv => lhs; whnf)
      obtain rfl := Option.some.inj h; show _ = _; kernel_rfl

    · replace h := ifT h hb11; conv => lhs; whnf
      try (rw [hb11]; conv => lhs; whnf)
      try (rw [hb11]; conv => lhs; whnf)
      cases hb12 : (decide ((i8 : Int) > 0))
      · replace h := ifF h (decF hb12); conv => lhs; whnf
        try (rw [hb12]; conv => lhs; whnf)
        try (rw [hb12]; conv => lhs; whnf)
        try (rw [hb12]; conv => lhs; whnf)
        try (rw [hb12]; conv => lhs; whnf)
        try (rw [hb12]; conv => lhs; whnf)
        try (rw [hb12]; conv => lhs; whnf)
        try (rw [hb12]; conv => lhs; whnf)
        try (rw [hb12]; conv => lhs; whnf)
        try (rw [hb12]; conv => lhs; whnf)
        try (rw [hb11]; conv => lhs; whnf)
        try (rw [hb12]; conv => lhs; whnf)
        try (rw [hb11]; conv => lhs; whnf)
        rw [wrap_nat i8 (by have := hn_i8; omega)]
        exact hnx9 _ _ _ _ (fun kk => by kernel_rfl) h
      · replace h := ifT h (decT hb12); conv => lhs; whnf
        try (rw [hb12]; conv => lhs; whnf)
        try (rw [hb12]; conv => lhs; whnf)
        try (rw [hb12]; conv => lhs; whnf)
        obtain ⟨x13, hq_x13, hx_x13', h⟩ := getK_inv h
        have hx_x13 := get_of (r := rI) hx_x13'
        try (rw [decide_eq_true hq_x13]; conv => lhs; whnf)
        rw [hx_x13]
        conv => lhs; whnf
        try (rw [hb12]; conv => lhs; whnf)
        rw [hx_x13]
        conv => lhs; whnf
        try (rw [hb12]; conv => lhs; whnf)
        try (rw [hb12]; conv => lhs; whnf)
        try (rw [hb12]; conv => lhs; whnf)
        try (rw [decide_eq_true hq_x10]; conv => lhs; whnf)
        rw [hx_x10]
        conv => lhs; whnf
        try (rw [hb12]; conv => lhs; whnf)
        rw [hx_x10]
        conv => lhs; whnf
        try (rw [hb12]; conv => lhs; whnf)
        try (rw [hb11]; conv => lhs; whnf)
        try (rw [hb12]; conv => lhs; whnf)
        try (rw [hb11]; conv => lhs; whnf)
        cases hb14 : (decide (x13 ≥ x10))
        · replace h := ifF h (decF hb14); conv => lhs; whnf
          rw [wrap_nat i8 (by have := hn_i8; omega)]
          exact hnx9 _ _ _ _ (fun kk => by kernel_rfl) h
        · replace h := ifT h (decT hb14); conv => lhs; whnf
          obtain rfl := Option.some.inj h; show _ = _; kernel_rfl

  · clear h
    rintro next_nx9 ⟨⟩ r h
    try dsimp only at h
    have hd_i8 : (decide ((a_0.length : Int) < (a_0.length : Int))) = false := decide_eq_false (by omega)
    conv => lhs; whnf
    try rw [len_of (l := a_0) (r := rI)]
    try (first | rw [hd_i8] | (split; (first | (rename_i hx; exact absurd (hd_i8.symm.trans hx) (by decide)) | (rotate_left; rename_i hx; exact absurd (hd_i8.symm.trans hx) (by decide)))))
    conv => lhs; whnf
    obtain rfl := Option.some.inj h; show _ = _; kernel_rfl


noncomputable def p_spec_l07Shape (a_0 : BadTable) : Option Bool :=
  callK (p_spec_ValidGeometry a_0.Geo) fun y1 =>
  if y1 = true then
    if (inR a_0.Spare 1 4) = true then
      if a_0.Spare < (IntKind.i64.wrap (a_0.Geo.Blocks - 1)) then
        callK (p_spec_l07Count a_0.Geo) fun y5 =>
        callK (p_spec_l00Rises a_0.Bad 0 (IntKind.i64.wrap (y5 - 1))) fun y6 =>
        some y6
      else
        some false
    else
      some false
  else
    some false

set_option maxHeartbeats 4000000 in
theorem L_spec_l07Shape (a_0 : BadTable) {r : Bool} (h : p_spec_l07Shape a_0 = some r) : callL E 219 [.agg [IN a_0.Geo.Dies, IN a_0.Geo.Blocks, IN a_0.Geo.Pages, IN a_0.Spare, .d (.arr (a_0.Bad.map rI)), .d (.arr (a_0.Remap.map rI))]] ([] : Fo) = some (BO r, ([] : Fo)) := by
  unfold p_spec_l07Shape at h
  refine callW (fu := Try.f219) rfl rfl rfl NN ?_
  intro lp cl hlp hcl
  conv => lhs; whnf
  obtain ⟨y1, h_y1, h⟩ := callK_inv h
  rw [cl_eq hcl (L_spec_ValidGeometry a_0.Geo h_y1)]
  rotate_left
  · show _ = _; kernel_rfl
  · show _ = _; kernel_rfl
  conv => lhs; whnf
  cases hb2 : y1
  · replace h := ifF h (booF hb2); conv => lhs; whnf
    try (rw [hb2]; conv => lhs; whnf)
    try (rw [hb2]; conv => lhs; whnf)
    try (rw [hb2]; conv => lhs; whnf)
    obtain rfl := Option.some.inj h; show _ = _; kernel_rfl

  · replace h := ifT h hb2; conv => lhs; whnf
    try (rw [hb2]; conv => lhs; whnf)
    try (rw [hb2]; conv => lhs; whnf)
    rw [cl_eq hcl (L_spec_l00In a_0.Spare 1 4 (pl_l00In a_0.Spare 1 4))]
    rotate_left
    · show _ = _; kernel_rfl
    · show _ = _; kernel_rfl
    conv => lhs; whnf
    try (rw [hb2]; conv => lhs; whnf)
    cases hb3 : (inR a_0.Spare 1 4)
    · replace h := ifF h (booF hb3); conv => lhs; whnf
      try (rw [hb3]; conv => lhs; whnf)
      try (rw [hb3]; conv => lhs; whnf)
      try (rw [hb3]; conv => lhs; whnf)
      try (rw [hb3]; conv => lhs; whnf)
      try (rw [hb3]; conv => lhs; whnf)
      try (rw [hb3]; conv => lhs; whnf)
      try (rw [hb3]; conv => lhs; whnf)
      obtain rfl := Option.some.inj h; show _ = _; kernel_rfl

    · replace h := ifT h hb3; conv => lhs; whnf
      try (rw [hb3]; conv => lhs; whnf)
      try (rw [hb3]; conv => lhs; whnf)
      try (rw [hb3]; conv => lhs; whnf)
      try (rw [hb3]; conv => lhs; whnf)
      try (rw [hb3]; conv => lhs; whnf)
      try (rw [hb3]; conv => lhs; whnf)
      try (rw [hb3]; conv => lhs; whnf)
      cases hb4 : (decide (a_0.Spare < (IntKind.i64.wrap (a_0.Geo.Blocks - 1))))
      · replace h := ifF h (decF hb4); conv => lhs; whnf
        try (rw [hb4]; conv => lhs; whnf)
        try (rw [hb4]; conv => lhs; whnf)
        try (rw [hb4]; conv => lhs; whnf)
        try (rw [hb4]; conv => lhs; whnf)
        try (rw [hb4]; conv => lhs; whnf)
        try (rw [hb4]; conv => lhs; whnf)
        try (rw [hb4]; conv => lhs; whnf)
        obtain rfl := Option.some.inj h; show _ = _; kernel_rfl

      · replace h := ifT h (decT hb4); conv => lhs; whnf
        try (rw [hb4]; conv => lhs; whnf)
        try (rw [hb4]; conv => lhs; whnf)
        try (rw [hb4]; conv => lhs; whnf)
        try (rw [hb4]; conv => lhs; whnf)
        obtain ⟨y5, h_y5, h⟩ := callK_inv h
        rw [cl_eq hcl (L_spec_l07Count a_0.Geo h_y5)]
        rotate_left
        · show _ = _; kernel_rfl
        · show _ = _; kernel_rfl
        conv => lhs; whnf
        try (rw [hb4]; conv => lhs; whnf)
        try (rw [hb4]; conv => lhs; whnf)
        obtain ⟨y6, h_y6, h⟩ := callK_inv h
        rw [cl_eq hcl (L_spec_l00Rises a_0.Bad 0 (IntKind.i64.wrap (y5 - 1)) h_y6)]
        rotate_left
        · show _ = _; kernel_rfl
        · show _ = _; kernel_rfl
        conv => lhs; whnf
        try (rw [hb4]; conv => lhs; whnf)
        obtain rfl := Option.some.inj h; show _ = _; kernel_rfl


noncomputable def p_spec_l07Home (a_0 : BadTable) (a_1 : Int) : Option Int :=
  grd ((IntKind.i64.wrap (a_0.Geo.Blocks - a_0.Spare)) ≠ 0) <|
  grd ((IntKind.i64.wrap (a_0.Geo.Blocks - a_0.Spare)) ≠ 0) <|
  some (IntKind.i64.wrap ((IntKind.i64.wrap ((IntKind.i64.wrap (Int.tdiv a_1 (IntKind.i64.wrap (a_0.Geo.Blocks - a_0.Spare)))) * a_0.Geo.Blocks)) + (Int.tmod a_1 (IntKind.i64.wrap (a_0.Geo.Blocks - a_0.Spare)))))

set_option maxHeartbeats 4000000 in
theorem L_spec_l07Home (a_0 : BadTable) (a_1 : Int) {r : Int} (h : p_spec_l07Home a_0 a_1 = some r) : callL E 220 [.agg [IN a_0.Geo.Dies, IN a_0.Geo.Blocks, IN a_0.Geo.Pages, IN a_0.Spare, .d (.arr (a_0.Bad.map rI)), .d (.arr (a_0.Remap.map rI))], IN a_1] ([] : Fo) = some (IN r, ([] : Fo)) := by
  unfold p_spec_l07Home at h
  refine callW (fu := Try.f220) rfl rfl rfl NN ?_
  intro lp cl hlp hcl
  conv => lhs; whnf
  obtain ⟨hg1, h⟩ := grd_inv h
  rw [quo_run _ _ _ _ hg1]
  conv => lhs; whnf
  obtain ⟨hg2, h⟩ := grd_inv h
  rw [rem_run _ _ _ _ hg2]
  conv => lhs; whnf
  obtain rfl := Option.some.inj h; show _ = _; kernel_rfl


noncomputable def p_spec_l00Has (a_0 : List Int) (a_1 : Int) : Option Bool :=
  grd (a_0.length < 4611686018427387904) <|
  forK a_0 (fun (i5 : Nat) x7 (_ : Unit) (nx6 : Unit → Option _) =>
    if x7 = a_1 then
      some true
    else
      nx6 ()) () (fun (_ : Unit) =>
    some false)

set_option maxHeartbeats 4000000 in
theorem L_spec_l00Has (a_0 : List Int) (a_1 : Int) {r : Bool} (h : p_spec_l00Has a_0 a_1 = some r) : callL E 221 [.d (.arr (a_0.map rI)), IN a_1] ([] : Fo) = some (BO r, ([] : Fo)) := by
  unfold p_spec_l00Has at h
  refine callW (fu := Try.f221) rfl rfl rfl NN ?_
  intro lp cl hlp hcl
  conv => lhs; whnf
  obtain ⟨hl_i5, h⟩ := grd_inv h
  refine loop_for hlp (l := a_0) hl_i5 (fun (i5 : Nat) (_ : Unit) => ([.d (.arr (a_0.map rI)), IN a_1, .dead, .dead, .dead, IN (i5 : Int)] ++ List.replicate 12 .dead : List V)) (fun (i5 : Nat) (_ : Unit) => ([] : Fo)) (fun (r : Bool) => ((BO r : V), ([] : Fo))) ?_ ?_ () _ (fun kk => by kernel_rfl) h
  · clear h
    rintro next_nx6 nx6 i5 hi_i5 hnx6 ⟨⟩ r h
    try dsimp only at h
    have hn_i5 : i5 < 4611686018427387904 := by omega
    have hx_x7 := get_map rI a_0 i5 hi_i5
    generalize a_0[i5] = x7 at h hx_x7
    have hd_i5 : (decide ((i5 : Int) < (a_0.length : Int))) = true := decide_eq_true (by omega)
    conv => lhs; whnf
    try rw [len_of (l := a_0) (r := rI)]
    try (first | rw [hd_i5] | (split; (first | (rename_i hx; exact absurd (hd_i5.symm.trans hx) (by decide)) | (rotate_left; rename_i hx; exact absurd (hd_i5.symm.trans hx) (by decide)))))
    conv => lhs; whnf
    try (rw [decide_eq_true hq_x7]; conv => lhs; whnf)
    rw [hx_x7]
    conv => lhs; whnf
    rw [hx_x7]
    conv => lhs; whnf
    cases hb8 : (x7 == a_1)
    · replace h := ifF h (beqF hb8); conv => lhs; whnf
      rw [wrap_nat i5 (by have := hn_i5; omega)]
      exact hnx6 _ _ _ _ (fun kk => by kernel_rfl) h
    · replace h := ifT h (beqT hb8); conv => lhs; whnf
      obtain rfl := Option.some.inj h; show _ = _; kernel_rfl

  · clear h
    rintro next_nx6 ⟨⟩ r h
    try dsimp only at h
    have hd_i5 : (decide ((a_0.length : Int) < (a_0.length : Int))) = false := decide_eq_false (by omega)
    conv => lhs; whnf
    try rw [len_of (l := a_0) (r := rI)]
    try (first | rw [hd_i5] | (split; (first | (rename_i hx; exact absurd (hd_i5.symm.trans hx) (by decide)) | (rotate_left; rename_i hx; exact absurd (hd_i5.symm.trans hx) (by decide)))))
    conv => lhs; whnf
    obtain rfl := Option.some.inj h; show _ = _; kernel_rfl


noncomputable def p_spec_l07Available (a_0 : Int) (a_1 : Int) (a_2 : Int) (a_3 : Int) (a_4 : Int) (a_5 : List Int) (a_6 : List Int) : Option (List Int) :=
  iterK (fun ((v1, v2) : (Int × (List Int))) (nx3 : (Int × (List Int)) → Option _) =>
    if v1 < (IntKind.i64.wrap ((IntKind.i64.wrap (a_4 + 1)) * a_1)) then
      callK (p_spec_l00Has a_5 v1) fun y5 =>
      if y5 = true then
        nx3 ((IntKind.i64.wrap (v1 + 1)), v2)
      else
        callK (p_spec_l00Has a_6 v1) fun y7 =>
        if y7 = true then
          nx3 ((IntKind.i64.wrap (v1 + 1)), v2)
        else
          grd (appOk (v2.length + 1) 8 = true) <|
          nx3 ((IntKind.i64.wrap (v1 + 1)), (v2 ++ ([v1] : List Int)))
    else
      some v2) NN ((IntKind.i64.wrap ((IntKind.i64.wrap ((IntKind.i64.wrap (a_4 + 1)) * a_1)) - a_3)), ([] : List Int))

set_option maxHeartbeats 4000000 in
theorem L_spec_l07Available (a_0 : Int) (a_1 : Int) (a_2 : Int) (a_3 : Int) (a_4 : Int) (a_5 : List Int) (a_6 : List Int) {r : (List Int)} (h : p_spec_l07Available a_0 a_1 a_2 a_3 a_4 a_5 a_6 = some r) : callL E 222 [.agg [IN a_0, IN a_1, IN a_2, IN a_3, .sl 0, .sl 1], IN a_4] ([some (.arr 2 1 (a_5.map rI)), some (.arr 2 1 (a_6.map rI))] : Fo) = some (.sl 2, ([some (.arr 2 1 (a_5.map rI)), some (.arr 2 1 (a_6.map rI)), some (.arr 2 1 (r.map rI))] : Fo)) := by
  unfold p_spec_l07Available at h
  refine callW (fu := Try.f222) rfl rfl rfl NN ?_
  intro lp cl hlp hcl
  conv => lhs; whnf
  refine loop_iter hlp (fun ((v1, v2) : (Int × (List Int))) => ([.dead, IN a_4, .bp 2 0, .dead, .dead, .sl 3, IN v1] ++ List.replicate 37 .dead : List V)) (fun ((v1, v2) : (Int × (List Int))) => ([some (.arr 2 1 (a_5.map rI)), some (.arr 2 1 (a_6.map rI)), some (.box [IN a_0, IN a_1, IN a_2, IN a_3, .sl 0, .sl 1]), some (.arr 2 1 (v2.map rI))] : Fo)) (fun (r : (List Int)) => ((.sl 2 : V), ([some (.arr 2 1 (a_5.map rI)), some (.arr 2 1 (a_6.map rI)), some (.arr 2 1 (r.map rI))] : Fo))) ?_ ((IntKind.i64.wrap ((IntKind.i64.wrap ((IntKind.i64.wrap (a_4 + 1)) * a_1)) - a_3)), ([] : List Int)) _ (fun kk => by kernel_rfl) h
  clear h
  rintro next_nx3 nx3 hnx3 ⟨v1, v2⟩ r h
  try dsimp only at h
  conv => lhs; whnf
  cases hb4 : (decide (v1 < (IntKind.i64.wrap ((IntKind.i64.wrap (a_4 + 1)) * a_1))))
  · replace h := ifF h (decF hb4); conv => lhs; whnf
    obtain rfl := Option.some.inj h; show _ = _; kernel_rfl

  · replace h := ifT h (decT hb4); conv => lhs; whnf
    obtain ⟨y5, h_y5, h⟩ := callK_inv h
    rw [cl_eq hcl (L_spec_l00Has a_5 v1 h_y5)]
    rotate_left
    · show _ = _; kernel_rfl
    · show _ = _; kernel_rfl
    conv => lhs; whnf
    cases hb6 : y5
    · replace h := ifF h (booF hb6); conv => lhs; whnf
      try (rw [hb6]; conv => lhs; whnf)
      try (rw [hb6]; conv => lhs; whnf)
      try (rw [hb6]; conv => lhs; whnf)
      obtain ⟨y7, h_y7, h⟩ := callK_inv h
      rw [cl_eq hcl (L_spec_l00Has a_6 v1 h_y7)]
      rotate_left
      · show _ = _; kernel_rfl
      · show _ = _; kernel_rfl
      conv => lhs; whnf
      try (rw [hb6]; conv => lhs; whnf)
      try (rw [hb6]; conv => lhs; whnf)
      cases hb8 : y7
      · replace h := ifF h (booF hb8); conv => lhs; whnf
        obtain ⟨hg9, h⟩ := grd_inv h
        rw [app_eq hg9 ?h1 ?h2]
        case h1 => first | exact rfl | (simp only [List.length_map, List.length_cons, List.length_nil]; done) | (rw [List.length_map]; rfl)
        case h2 => exact rfl
        conv => lhs; whnf
        first | (rw [map_app_of (r := rI) (l := v2) (m := ([v1] : List Int)) ?hh]; case hh => exact rfl) | skip
        exact hnx3 _ _ _ _ (fun kk => by kernel_rfl) h
      · replace h := ifT h hb8; conv => lhs; whnf
        exact hnx3 _ _ _ _ (fun kk => by kernel_rfl) h
    · replace h := ifT h hb6; conv => lhs; whnf
      try (rw [hb6]; conv => lhs; whnf)
      try (rw [hb6]; conv => lhs; whnf)
      try (rw [hb6]; conv => lhs; whnf)
      try (rw [hb6]; conv => lhs; whnf)
      try (rw [hb6]; conv => lhs; whnf)
      exact hnx3 _ _ _ _ (fun kk => by kernel_rfl) h

noncomputable def p_spec_NewBadTable (a_0 : Geometry) (a_1 : Int) (a_2 : List Int) : Option (Int × Int × Int × Int × Int × (List Int) × (List Int)) :=
  callK (p_spec_ValidGeometry a_0) fun y1 =>
  if y1 = true then
    callK (p_spec_l00Own a_2) fun y3 =>
    callK (p_spec_l07Shape (⟨a_0, a_1, a_2, ([] : List Int)⟩ : BadTable)) fun y4 =>
    if y4 = true then
      grd ((IntKind.i64.wrap (a_0.Dies * (IntKind.i64.wrap (a_0.Blocks - a_1)))) < 4611686018427387904) <|
      forI (IntKind.i64.wrap (a_0.Dies * (IntKind.i64.wrap (a_0.Blocks - a_1)))) (fun (i15 : Nat) (v16 : List Int) (nx17 : (List Int) → Option _) =>
        callK (p_spec_l07Home (⟨a_0, a_1, a_2, v16⟩ : BadTable) (i15 : Int)) fun y18 =>
        callK (p_spec_l00Has a_2 y18) fun y19 =>
        if y19 = true then
          grd (a_0.Blocks ≠ 0) <|
          callK (p_spec_l07Available a_0.Dies a_0.Blocks a_0.Pages a_1 (IntKind.i64.wrap (Int.tdiv y18 a_0.Blocks)) a_2 v16) fun y21 =>
          if (y21.length : Int) = 0 then
            some (0, 0, 0, 0, 4, ([] : List Int), ([] : List Int))
          else
            getK y21 0 fun x23 =>
            grd (appOk (v16.length + 1) 8 = true) <|
            nx17 (v16 ++ ([x23] : List Int))
        else
          grd (appOk (v16.length + 1) 8 = true) <|
          nx17 (v16 ++ ([y18] : List Int))) ([] : List Int) (fun (v16 : List Int) =>
        some (a_0.Dies, a_0.Blocks, a_0.Pages, a_1, 0, a_2, v16))
    else
      some (0, 0, 0, 0, 2, ([] : List Int), ([] : List Int))
  else
    some (0, 0, 0, 0, 1, ([] : List Int), ([] : List Int))

set_option maxHeartbeats 4000000 in
theorem L_spec_NewBadTable (a_0 : Geometry) (a_1 : Int) (a_2 : List Int) {r : (Int × Int × Int × Int × Int × (List Int) × (List Int))} (h : p_spec_NewBadTable a_0 a_1 a_2 = some r) : callL E 136 [.agg [IN a_0.Dies, IN a_0.Blocks, IN a_0.Pages], IN a_1, .sl 0] ([some (.arr 2 1 (a_2.map rI))] : Fo) = some (.tup [.agg [IN r.1, IN r.2.1, IN r.2.2.1, IN r.2.2.2.1, .sl 1, .sl 2], IN r.2.2.2.2.1], ([some (.arr 2 1 (a_2.map rI)), some (.arr 2 1 (r.2.2.2.2.2.1.map rI)), some (.arr 2 1 (r.2.2.2.2.2.2.map rI))] : Fo)) := by
  unfold p_spec_NewBadTable at h
  refine callW (fu := Try.f136) rfl rfl rfl NN ?_
  intro lp cl hlp hcl
  conv => lhs; whnf
  obtain ⟨y1, h_y1, h⟩ := callK_inv h
  rw [cl_eq hcl (L_spec_ValidGeometry a_0 h_y1)]
  rotate_left
  · show _ = _; kernel_rfl
  · show _ = _; kernel_rfl
  conv => lhs; whnf
  cases hb2 : y1
  · replace h := ifF h (booF hb2); conv => lhs; whnf
    obtain rfl := Option.some.inj h; show _ = _; kernel_rfl

  · replace h := ifT h hb2
    try rw [hb2] at h
    conv => lhs; whnf
    obtain ⟨y3, h_y3, h⟩ := callK_inv h
    rw [cl_eq hcl (L_spec_l00Own a_2 h_y3)]
    rotate_left
    · show _ = _; kernel_rfl
    · show _ = _; kernel_rfl
    conv => lhs; whnf
    obtain ⟨y4, h_y4, h⟩ := callK_inv h
    rw [cl_eq hcl (L_spec_l07Shape (⟨a_0, a_1, a_2, ([] : List Int)⟩ : BadTable) h_y4)]
    rotate_left
    · show _ = _; kernel_rfl
    · show _ = _; kernel_rfl
    conv => lhs; whnf
    cases hb5 : y4
    · replace h := ifF h (booF hb5); conv => lhs; whnf
      obtain rfl := Option.some.inj h; show _ = _; kernel_rfl

    · replace h := ifT h hb5; conv => lhs; whnf
      obtain ⟨hl_i15, h⟩ := grd_inv h
      refine loop_forI hlp (n := (IntKind.i64.wrap (a_0.Dies * (IntKind.i64.wrap (a_0.Blocks - a_1))))) hl_i15 (fun (i15 : Nat) (v16 : List Int) => ([.dead, IN a_1, .dead, .bp 1 0, .dead, .dead, .bp 2 0, .dead, .bp 3 0, IN (i15 : Int)] ++ List.replicate 53 .dead : List V)) (fun (i15 : Nat) (v16 : List Int) => ([some (.arr 2 1 (a_2.map rI)), some (.box [IN a_0.Dies, IN a_0.Blocks, IN a_0.Pages]), some (.box [IN 0, IN 0, IN 0, IN 0, .d (.arr (([] : List Int).map rI)), .d (.arr (([] : List Int).map rI))]), some (.box [IN a_0.Dies, IN a_0.Blocks, IN a_0.Pages, IN a_1, .sl 4, .sl 5]), some (.arr 2 1 (a_2.map rI)), some (.arr 2 1 (v16.map rI))] : Fo)) (fun (r : (Int × Int × Int × Int × Int × (List Int) × (List Int))) => ((.tup [.agg [IN r.1, IN r.2.1, IN r.2.2.1, IN r.2.2.2.1, .sl 1, .sl 2], IN r.2.2.2.2.1] : V), ([some (.arr 2 1 (a_2.map rI)), some (.arr 2 1 (r.2.2.2.2.2.1.map rI)), some (.arr 2 1 (r.2.2.2.2.2.2.map rI))] : Fo))) ?_ ?_ ([] : List Int) _ (fun kk => by kernel_rfl) h
      · clear h
        rintro next_nx17 nx17 i15 hi_i15 hnx17 v16 r h
        try dsimp only at h
        have hn_i15 : i15 < 4611686018427387904 := by omega
        have hd_i15 : (decide ((i15 : Int) < (IntKind.i64.wrap (a_0.Dies * (IntKind.i64.wrap (a_0.Blocks - a_1)))))) = true := decide_eq_true (by omega)
        conv => lhs; whnf
        try (first | rw [hd_i15] | (split; (first | (rename_i hx; exact absurd (hd_i15.symm.trans hx) (by decide)) | (rotate_left; rename_i hx; exact absurd (hd_i15.symm.trans hx) (by decide)))))
        conv => lhs; whnf
        obtain ⟨y18, h_y18, h⟩ := callK_inv h
        rw [cl_eq hcl (L_spec_l07Home (⟨a_0, a_1, a_2, v16⟩ : BadTable) (i15 : Int) h_y18)]
        rotate_left
        · show _ = _; kernel_rfl
        · show _ = _; kernel_rfl
        conv => lhs; whnf
        obtain ⟨y19, h_y19, h⟩ := callK_inv h
        rw [cl_eq hcl (L_spec_l00Has a_2 y18 h_y19)]
        rotate_left
        · show _ = _; kernel_rfl
        · show _ = _; kernel_rfl
        conv => lhs; whnf
        cases hb20 : y19
        · replace h := ifF h (booF hb20); conv => lhs; whnf
          obtain ⟨hg24, h⟩ := grd_inv h
          rw [app_eq hg24 ?h1 ?h2]
          case h1 => first | exact rfl | (simp only [List.length_map, List.length_cons, List.length_nil]; done) | (rw [List.length_map]; rfl)
          case h2 => exact rfl
          conv => lhs; whnf
          first | (rw [map_app_of (r := rI) (l := v16) (m := ([y18] : List Int)) ?hh]; case hh => exact rfl) | skip
          rw [wrap_nat i15 (by have := hn_i15; omega)]
          exact hnx17 _ _ _ _ (fun kk => by kernel_rfl) h
        · replace h := ifT h hb20; conv => lhs; whnf
          obtain ⟨hg25, h⟩ := grd_inv h
          rw [quo_run _ _ _ _ hg25]
          conv => lhs; whnf
          obtain ⟨y21, h_y21, h⟩ := callK_inv h
          rw [cl_eq hcl (L_spec_l07Available a_0.Dies a_0.Blocks a_0.Pages a_1 (IntKind.i64.wrap (Int.tdiv y18 a_0.Blocks)) a_2 v16 h_y21)]
          rotate_left
          · show _ = _; kernel_rfl
          · show _ = _; kernel_rfl
          conv => lhs; whnf
          try rw [len_of (l := y21) (r := rI)]
          cases hb22 : ((y21.length : Int) == 0)
          · replace h := ifF h (beqF hb22); conv => lhs; whnf
            obtain ⟨x23, hq_x23, hx_x23', h⟩ := getK_inv h
            have hx_x23 := get_of (r := rI) hx_x23'
            try (rw [decide_eq_true hq_x23]; conv => lhs; whnf)
            rw [hx_x23]
            conv => lhs; whnf
            rw [hx_x23]
            conv => lhs; whnf
            obtain ⟨hg26, h⟩ := grd_inv h
            rw [app_eq hg26 ?h1 ?h2]
            case h1 => first | exact rfl | (simp only [List.length_map, List.length_cons, List.length_nil]; done) | (rw [List.length_map]; rfl)
            case h2 => exact rfl
            conv => lhs; whnf
            first | (rw [map_app_of (r := rI) (l := v16) (m := ([x23] : List Int)) ?hh]; case hh => exact rfl) | skip
            rw [wrap_nat i15 (by have := hn_i15; omega)]
            exact hnx17 _ _ _ _ (fun kk => by kernel_rfl) h
          · replace h := ifT h (beqT hb22); conv => lhs; whnf
            obtain rfl := Option.some.inj h; show _ = _; kernel_rfl

      · clear h
        rintro next_nx17 v16 r h
        try dsimp only at h
        have hd_i15 : (decide (((Int.toNat (IntKind.i64.wrap (a_0.Dies * (IntKind.i64.wrap (a_0.Blocks - a_1))))) : Int) < (IntKind.i64.wrap (a_0.Dies * (IntKind.i64.wrap (a_0.Blocks - a_1)))))) = false := decide_eq_false (by omega)
        conv => lhs; whnf
        try (first | rw [hd_i15] | (split; (first | (rename_i hx; exact absurd (hd_i15.symm.trans hx) (by decide)) | (rotate_left; rename_i hx; exact absurd (hd_i15.symm.trans hx) (by decide)))))
        conv => lhs; whnf
        obtain rfl := Option.some.inj h; show _ = _; kernel_rfl


noncomputable def p_spec_l00Own' (a_0 : List Int) : Option Unit :=
  grd (appOk (0 + a_0.length) 8 = true) <|
  some ()

set_option maxHeartbeats 4000000 in
theorem L_spec_l00Own' (a_0 : List Int) {r : Unit} (h : p_spec_l00Own' a_0 = some r) : callL E 121 [.d (.arr (a_0.map rI))] ([] : Fo) = some (.sl 0, ([some (.arr 2 1 (a_0.map rI))] : Fo)) := by
  unfold p_spec_l00Own' at h
  refine callW (fu := Try.f121) rfl rfl rfl NN ?_
  intro lp cl hlp hcl
  conv => lhs; whnf
  obtain ⟨hg1, h⟩ := grd_inv h
  rw [app_eq hg1 ?h1 ?h2]
  case h1 => first | exact rfl | (simp only [List.length_map, List.length_cons, List.length_nil]; done) | (rw [List.length_map]; rfl)
  case h2 => exact rfl
  conv => lhs; whnf
  rw [allLen_map rI _ rI_len]
  conv => lhs; whnf
  first | (rw [nil_app_of (r := rI) (m := a_0) ?hh]; case hh => exact rfl) | skip
  obtain rfl := Option.some.inj h; show _ = _; kernel_rfl


noncomputable def p_spec_NewBadTable' (a_0 : Geometry) (a_1 : Int) (a_2 : List Int) : Option (Int × Int × Int × Int × Int × (List Int) × (List Int)) :=
  callK (p_spec_ValidGeometry a_0) fun y1 =>
  if y1 = true then
    callK (p_spec_l00Own' a_2) fun y3 =>
    callK (p_spec_l07Shape (⟨a_0, a_1, a_2, ([] : List Int)⟩ : BadTable)) fun y4 =>
    if y4 = true then
      grd ((IntKind.i64.wrap (a_0.Dies * (IntKind.i64.wrap (a_0.Blocks - a_1)))) < 4611686018427387904) <|
      forI (IntKind.i64.wrap (a_0.Dies * (IntKind.i64.wrap (a_0.Blocks - a_1)))) (fun (i15 : Nat) (v16 : List Int) (nx17 : (List Int) → Option _) =>
        callK (p_spec_l07Home (⟨a_0, a_1, a_2, v16⟩ : BadTable) (i15 : Int)) fun y18 =>
        callK (p_spec_l00Has a_2 y18) fun y19 =>
        if y19 = true then
          grd (a_0.Blocks ≠ 0) <|
          callK (p_spec_l07Available a_0.Dies a_0.Blocks a_0.Pages a_1 (IntKind.i64.wrap (Int.tdiv y18 a_0.Blocks)) a_2 v16) fun y21 =>
          if (y21.length : Int) = 0 then
            some (0, 0, 0, 0, 4, ([] : List Int), ([] : List Int))
          else
            getK y21 0 fun x23 =>
            grd (appOk (v16.length + 1) 8 = true) <|
            nx17 (v16 ++ ([x23] : List Int))
        else
          grd (appOk (v16.length + 1) 8 = true) <|
          nx17 (v16 ++ ([y18] : List Int))) ([] : List Int) (fun (v16 : List Int) =>
        some (a_0.Dies, a_0.Blocks, a_0.Pages, a_1, 0, a_2, v16))
    else
      some (0, 0, 0, 0, 2, ([] : List Int), ([] : List Int))
  else
    some (0, 0, 0, 0, 1, ([] : List Int), ([] : List Int))

set_option maxHeartbeats 4000000 in
theorem L_spec_NewBadTable' (a_0 : Geometry) (a_1 : Int) (a_2 : List Int) {r : (Int × Int × Int × Int × Int × (List Int) × (List Int))} (h : p_spec_NewBadTable' a_0 a_1 a_2 = some r) : callL E 136 [.agg [IN a_0.Dies, IN a_0.Blocks, IN a_0.Pages], IN a_1, .d (.arr (a_2.map rI))] ([] : Fo) = some (.tup [.agg [IN r.1, IN r.2.1, IN r.2.2.1, IN r.2.2.2.1, .sl 0, .sl 1], IN r.2.2.2.2.1], ([some (.arr 2 1 (r.2.2.2.2.2.1.map rI)), some (.arr 2 1 (r.2.2.2.2.2.2.map rI))] : Fo)) := by
  unfold p_spec_NewBadTable' at h
  refine callW (fu := Try.f136) rfl rfl rfl NN ?_
  intro lp cl hlp hcl
  conv => lhs; whnf
  obtain ⟨y1, h_y1, h⟩ := callK_inv h
  rw [cl_eq hcl (L_spec_ValidGeometry a_0 h_y1)]
  rotate_left
  · show _ = _; kernel_rfl
  · show _ = _; kernel_rfl
  conv => lhs; whnf
  cases hb2 : y1
  · replace h := ifF h (booF hb2); conv => lhs; whnf
    obtain rfl := Option.some.inj h; show _ = _; kernel_rfl

  · replace h := ifT h hb2
    try rw [hb2] at h
    conv => lhs; whnf
    obtain ⟨y3, h_y3, h⟩ := callK_inv h
    rw [cl_eq hcl (L_spec_l00Own' a_2 h_y3)]
    rotate_left
    · show _ = _; kernel_rfl
    · show _ = _; kernel_rfl
    conv => lhs; whnf
    obtain ⟨y4, h_y4, h⟩ := callK_inv h
    rw [cl_eq hcl (L_spec_l07Shape (⟨a_0, a_1, a_2, ([] : List Int)⟩ : BadTable) h_y4)]
    rotate_left
    · show _ = _; kernel_rfl
    · show _ = _; kernel_rfl
    conv => lhs; whnf
    cases hb5 : y4
    · replace h := ifF h (booF hb5); conv => lhs; whnf
      obtain rfl := Option.some.inj h; show _ = _; kernel_rfl

    · replace h := ifT h hb5; conv => lhs; whnf
      obtain ⟨hl_i15, h⟩ := grd_inv h
      refine loop_forI hlp (n := (IntKind.i64.wrap (a_0.Dies * (IntKind.i64.wrap (a_0.Blocks - a_1))))) hl_i15 (fun (i15 : Nat) (v16 : List Int) => ([.dead, IN a_1, .dead, .bp 0 0, .dead, .dead, .bp 1 0, .dead, .bp 2 0, IN (i15 : Int)] ++ List.replicate 53 .dead : List V)) (fun (i15 : Nat) (v16 : List Int) => ([some (.box [IN a_0.Dies, IN a_0.Blocks, IN a_0.Pages]), some (.box [IN 0, IN 0, IN 0, IN 0, .d (.arr (([] : List Int).map rI)), .d (.arr (([] : List Int).map rI))]), some (.box [IN a_0.Dies, IN a_0.Blocks, IN a_0.Pages, IN a_1, .sl 3, .sl 4]), some (.arr 2 1 (a_2.map rI)), some (.arr 2 1 (v16.map rI))] : Fo)) (fun (r : (Int × Int × Int × Int × Int × (List Int) × (List Int))) => ((.tup [.agg [IN r.1, IN r.2.1, IN r.2.2.1, IN r.2.2.2.1, .sl 0, .sl 1], IN r.2.2.2.2.1] : V), ([some (.arr 2 1 (r.2.2.2.2.2.1.map rI)), some (.arr 2 1 (r.2.2.2.2.2.2.map rI))] : Fo))) ?_ ?_ ([] : List Int) _ (fun kk => by kernel_rfl) h
      · clear h
        rintro next_nx17 nx17 i15 hi_i15 hnx17 v16 r h
        try dsimp only at h
        have hn_i15 : i15 < 4611686018427387904 := by omega
        have hd_i15 : (decide ((i15 : Int) < (IntKind.i64.wrap (a_0.Dies * (IntKind.i64.wrap (a_0.Blocks - a_1)))))) = true := decide_eq_true (by omega)
        conv => lhs; whnf
        try (first | rw [hd_i15] | (split; (first | (rename_i hx; exact absurd (hd_i15.symm.trans hx) (by decide)) | (rotate_left; rename_i hx; exact absurd (hd_i15.symm.trans hx) (by decide)))))
        conv => lhs; whnf
        obtain ⟨y18, h_y18, h⟩ := callK_inv h
        rw [cl_eq hcl (L_spec_l07Home (⟨a_0, a_1, a_2, v16⟩ : BadTable) (i15 : Int) h_y18)]
        rotate_left
        · show _ = _; kernel_rfl
        · show _ = _; kernel_rfl
        conv => lhs; whnf
        obtain ⟨y19, h_y19, h⟩ := callK_inv h
        rw [cl_eq hcl (L_spec_l00Has a_2 y18 h_y19)]
        rotate_left
        · show _ = _; kernel_rfl
        · show _ = _; kernel_rfl
        conv => lhs; whnf
        cases hb20 : y19
        · replace h := ifF h (booF hb20); conv => lhs; whnf
          obtain ⟨hg24, h⟩ := grd_inv h
          rw [app_eq hg24 ?h1 ?h2]
          case h1 => first | exact rfl | (simp only [List.length_map, List.length_cons, List.length_nil]; done) | (rw [List.length_map]; rfl)
          case h2 => exact rfl
          conv => lhs; whnf
          first | (rw [map_app_of (r := rI) (l := v16) (m := ([y18] : List Int)) ?hh]; case hh => exact rfl) | skip
          rw [wrap_nat i15 (by have := hn_i15; omega)]
          exact hnx17 _ _ _ _ (fun kk => by kernel_rfl) h
        · replace h := ifT h hb20; conv => lhs; whnf
          obtain ⟨hg25, h⟩ := grd_inv h
          rw [quo_run _ _ _ _ hg25]
          conv => lhs; whnf
          obtain ⟨y21, h_y21, h⟩ := callK_inv h
          rw [cl_eq hcl (L_spec_l07Available a_0.Dies a_0.Blocks a_0.Pages a_1 (IntKind.i64.wrap (Int.tdiv y18 a_0.Blocks)) a_2 v16 h_y21)]
          rotate_left
          · show _ = _; kernel_rfl
          · show _ = _; kernel_rfl
          conv => lhs; whnf
          try rw [len_of (l := y21) (r := rI)]
          cases hb22 : ((y21.length : Int) == 0)
          · replace h := ifF h (beqF hb22); conv => lhs; whnf
            obtain ⟨x23, hq_x23, hx_x23', h⟩ := getK_inv h
            have hx_x23 := get_of (r := rI) hx_x23'
            try (rw [decide_eq_true hq_x23]; conv => lhs; whnf)
            rw [hx_x23]
            conv => lhs; whnf
            rw [hx_x23]
            conv => lhs; whnf
            obtain ⟨hg26, h⟩ := grd_inv h
            rw [app_eq hg26 ?h1 ?h2]
            case h1 => first | exact rfl | (simp only [List.length_map, List.length_cons, List.length_nil]; done) | (rw [List.length_map]; rfl)
            case h2 => exact rfl
            conv => lhs; whnf
            first | (rw [map_app_of (r := rI) (l := v16) (m := ([x23] : List Int)) ?hh]; case hh => exact rfl) | skip
            rw [wrap_nat i15 (by have := hn_i15; omega)]
            exact hnx17 _ _ _ _ (fun kk => by kernel_rfl) h
          · replace h := ifT h (beqT hb22); conv => lhs; whnf
            obtain rfl := Option.some.inj h; show _ = _; kernel_rfl

      · clear h
        rintro next_nx17 v16 r h
        try dsimp only at h
        have hd_i15 : (decide (((Int.toNat (IntKind.i64.wrap (a_0.Dies * (IntKind.i64.wrap (a_0.Blocks - a_1))))) : Int) < (IntKind.i64.wrap (a_0.Dies * (IntKind.i64.wrap (a_0.Blocks - a_1)))))) = false := decide_eq_false (by omega)
        conv => lhs; whnf
        try (first | rw [hd_i15] | (split; (first | (rename_i hx; exact absurd (hd_i15.symm.trans hx) (by decide)) | (rotate_left; rename_i hx; exact absurd (hd_i15.symm.trans hx) (by decide)))))
        conv => lhs; whnf
        obtain rfl := Option.some.inj h; show _ = _; kernel_rfl


noncomputable def p_spec_l07SpareOf (a_0 : BadTable) (a_1 : Int) (a_2 : Int) : Option Bool :=
  some (inR a_2 (IntKind.i64.wrap ((IntKind.i64.wrap ((IntKind.i64.wrap (a_1 + 1)) * a_0.Geo.Blocks)) - a_0.Spare)) (IntKind.i64.wrap ((IntKind.i64.wrap ((IntKind.i64.wrap (a_1 + 1)) * a_0.Geo.Blocks)) - 1)))

set_option maxHeartbeats 4000000 in
theorem L_spec_l07SpareOf (a_0 : BadTable) (a_1 : Int) (a_2 : Int) {r : Bool} (h : p_spec_l07SpareOf a_0 a_1 a_2 = some r) : callL E 231 [.agg [IN a_0.Geo.Dies, IN a_0.Geo.Blocks, IN a_0.Geo.Pages, IN a_0.Spare, .d (.arr (a_0.Bad.map rI)), .d (.arr (a_0.Remap.map rI))], IN a_1, IN a_2] ([] : Fo) = some (BO r, ([] : Fo)) := by
  unfold p_spec_l07SpareOf at h
  refine callW (fu := Try.f231) rfl rfl rfl NN ?_
  intro lp cl hlp hcl
  conv => lhs; whnf
  rw [cl_eq hcl (L_spec_l00In a_2 (IntKind.i64.wrap ((IntKind.i64.wrap ((IntKind.i64.wrap (a_1 + 1)) * a_0.Geo.Blocks)) - a_0.Spare)) (IntKind.i64.wrap ((IntKind.i64.wrap ((IntKind.i64.wrap (a_1 + 1)) * a_0.Geo.Blocks)) - 1)) (pl_l00In a_2 (IntKind.i64.wrap ((IntKind.i64.wrap ((IntKind.i64.wrap (a_1 + 1)) * a_0.Geo.Blocks)) - a_0.Spare)) (IntKind.i64.wrap ((IntKind.i64.wrap ((IntKind.i64.wrap (a_1 + 1)) * a_0.Geo.Blocks)) - 1))))]
  rotate_left
  · show _ = _; kernel_rfl
  · show _ = _; kernel_rfl
  conv => lhs; whnf
  obtain rfl := Option.some.inj h; show _ = _; kernel_rfl


noncomputable def p_spec_ValidBadTable (a_0 : BadTable) : Option Bool :=
  callK (p_spec_l07Shape a_0) fun y1 =>
  if y1 = true then
    if ¬ (a_0.Remap.length : Int) = (IntKind.i64.wrap (a_0.Geo.Dies * (IntKind.i64.wrap (a_0.Geo.Blocks - a_0.Spare)))) then
      some false
    else
      grd (a_0.Remap.length < 4611686018427387904) <|
      forK a_0.Remap (fun (i17 : Nat) x19 (_ : Unit) (nx18 : Unit → Option _) =>
        callK (p_spec_l07Home a_0 (i17 : Int)) fun y20 =>
        callK (p_spec_l00Has a_0.Bad x19) fun y21 =>
        if y21 = true then
          some false
        else
          grd (0 ≤ 0 ∧ 0 ≤ (i17 : Int) ∧ (i17 : Int) ≤ (a_0.Remap.length : Int)) <|
          callK (p_spec_l00Has ((a_0.Remap.drop (Int.toNat 0)).take (Int.toNat (i17 : Int) - Int.toNat 0)) x19) fun y23 =>
          if y23 = true then
            some false
          else
            if ¬ x19 = y20 then
              grd (a_0.Geo.Blocks ≠ 0) <|
              callK (p_spec_l07SpareOf a_0 (IntKind.i64.wrap (Int.tdiv y20 a_0.Geo.Blocks)) x19) fun y26 =>
              if y26 = true then
                callK (p_spec_l00Has a_0.Bad y20) fun y28 =>
                if y28 = true then
                  nx18 ()
                else
                  some false
              else
                some false
            else
              nx18 ()) () (fun (_ : Unit) =>
        some true)
  else
    some false

set_option maxHeartbeats 4000000 in
theorem L_spec_ValidBadTable (a_0 : BadTable) {r : Bool} (h : p_spec_ValidBadTable a_0 = some r) : callL E 140 [.agg [IN a_0.Geo.Dies, IN a_0.Geo.Blocks, IN a_0.Geo.Pages, IN a_0.Spare, .d (.arr (a_0.Bad.map rI)), .d (.arr (a_0.Remap.map rI))]] ([] : Fo) = some (BO r, ([] : Fo)) := by
  unfold p_spec_ValidBadTable at h
  refine callW (fu := Try.f140) rfl rfl rfl NN ?_
  intro lp cl hlp hcl
  conv => lhs; whnf
  obtain ⟨y1, h_y1, h⟩ := callK_inv h
  rw [cl_eq hcl (L_spec_l07Shape a_0 h_y1)]
  rotate_left
  · show _ = _; kernel_rfl
  · show _ = _; kernel_rfl
  conv => lhs; whnf
  cases hb2 : y1
  · replace h := ifF h (booF hb2); conv => lhs; whnf
    try (rw [hb2]; conv => lhs; whnf)
    try (rw [hb2]; conv => lhs; whnf)
    try (rw [hb2]; conv => lhs; whnf)
    try (rw [hb2]; conv => lhs; whnf)
    try (rw [hb2]; conv => lhs; whnf)
    try (rw [hb2]; conv => lhs; whnf)
    try (rw [hb2]; conv => lhs; whnf)
    try (rw [hb2]; conv => lhs; whnf)
    try (rw [hb2]; conv => lhs; whnf)
    try (rw [hb2]; conv => lhs; whnf)
    try (rw [hb2]; conv => lhs; whnf)
    try (rw [hb2]; conv => lhs; whnf)
    try (rw [hb2]; conv => lhs; whnf)
    try (rw [hb2]; conv => lhs; whnf)
    obtain rfl := Option.some.inj h; show _ = _; kernel_rfl

  · replace h := ifT h hb2; conv => lhs; whnf
    try (rw [hb2]; conv => lhs; whnf)
    try (rw [hb2]; conv => lhs; whnf)
    try rw [len_of (l := a_0.Remap) (r := rI)]
    try (rw [hb2]; conv => lhs; whnf)
    try (rw [hb2]; conv => lhs; whnf)
    try (rw [hb2]; conv => lhs; whnf)
    try (rw [hb2]; conv => lhs; whnf)
    try (rw [hb2]; conv => lhs; whnf)
    try (rw [hb2]; conv => lhs; whnf)
    try (rw [hb2]; conv => lhs; whnf)
    try (rw [hb2]; conv => lhs; whnf)
    try (rw [hb2]; conv => lhs; whnf)
    try (rw [hb2]; conv => lhs; whnf)
    try (rw [hb2]; conv => lhs; whnf)
    try (rw [hb2]; conv => lhs; whnf)
    cases hb3 : ((a_0.Remap.length : Int) != (IntKind.i64.wrap (a_0.Geo.Dies * (IntKind.i64.wrap (a_0.Geo.Blocks - a_0.Spare)))))
    · replace h := ifF h ((fun h => not_not_intro (bneF h)) hb3); conv => lhs; whnf
      obtain ⟨hl_i17, h⟩ := grd_inv h
      refine loop_for hlp (l := a_0.Remap) hl_i17 (fun (i17 : Nat) (_ : Unit) => ([.dead, .bp 0 0, .dead, IN (i17 : Int)] ++ List.replicate 68 .dead : List V)) (fun (i17 : Nat) (_ : Unit) => ([some (.box [IN a_0.Geo.Dies, IN a_0.Geo.Blocks, IN a_0.Geo.Pages, IN a_0.Spare, .d (.arr (a_0.Bad.map rI)), .d (.arr (a_0.Remap.map rI))])] : Fo)) (fun (r : Bool) => ((BO r : V), ([] : Fo))) ?_ ?_ () _ (fun kk => by kernel_rfl) h
      · clear h
        rintro next_nx18 nx18 i17 hi_i17 hnx18 ⟨⟩ r h
        try dsimp only at h
        have hn_i17 : i17 < 4611686018427387904 := by omega
        have hx_x19 := get_map rI a_0.Remap i17 hi_i17
        generalize a_0.Remap[i17] = x19 at h hx_x19
        have hd_i17 : (decide ((i17 : Int) < (a_0.Remap.length : Int))) = true := decide_eq_true (by omega)
        conv => lhs; whnf
        try rw [len_of (l := a_0.Remap) (r := rI)]
        try (first | rw [hd_i17] | (split; (first | (rename_i hx; exact absurd (hd_i17.symm.trans hx) (by decide)) | (rotate_left; rename_i hx; exact absurd (hd_i17.symm.trans hx) (by decide)))))
        conv => lhs; whnf
        obtain ⟨y20, h_y20, h⟩ := callK_inv h
        rw [cl_eq hcl (L_spec_l07Home a_0 (i17 : Int) h_y20)]
        rotate_left
        · show _ = _; kernel_rfl
        · show _ = _; kernel_rfl
        conv => lhs; whnf
        try (rw [decide_eq_true hq_x19]; conv => lhs; whnf)
        rw [hx_x19]
        conv => lhs; whnf
        rw [hx_x19]
        conv => lhs; whnf
        obtain ⟨y21, h_y21, h⟩ := callK_inv h
        rw [cl_eq hcl (L_spec_l00Has a_0.Bad x19 h_y21)]
        rotate_left
        · show _ = _; kernel_rfl
        · show _ = _; kernel_rfl
        conv => lhs; whnf
        cases hb22 : y21
        · replace h := ifF h (booF hb22); conv => lhs; whnf
          try (rw [hb22]; conv => lhs; whnf)
          try (rw [hb22]; conv => lhs; whnf)
          try (rw [hb22]; conv => lhs; whnf)
          obtain ⟨hg30, h⟩ := grd_inv h
          try (rw [allLen_map rI _ rI_len]; conv => lhs; whnf)
          try rw [List.length_map]
          try (rw [decide_eq_true hg30.1]; conv => lhs; whnf)
          try (rw [decide_eq_true hg30.2.1]; conv => lhs; whnf)
          try (rw [decide_eq_true hg30.2.2])
          conv => lhs; whnf
          try rw [cut_of (r := rI) (l := a_0.Remap)]
          try (rw [hb22]; conv => lhs; whnf)
          try (rw [hb22]; conv => lhs; whnf)
          obtain ⟨y23, h_y23, h⟩ := callK_inv h
          rw [cl_eq hcl (L_spec_l00Has ((a_0.Remap.drop (Int.toNat 0)).take (Int.toNat (i17 : Int) - Int.toNat 0)) x19 h_y23)]
          rotate_left
          · show _ = _; kernel_rfl
          · show _ = _; kernel_rfl
          conv => lhs; whnf
          try (rw [hb22]; conv => lhs; whnf)
          cases hb24 : y23
          · replace h := ifF h (booF hb24); conv => lhs; whnf
            cases hb25 : (x19 != y20)
            · replace h := ifF h ((fun h => not_not_intro (bneF h)) hb25); conv => lhs; whnf
              try (rw [hb25]; conv => lhs; whnf)
              try (rw [hb25]; conv => lhs; whnf)
              try (rw [hb25]; conv => lhs; whnf)
              try (rw [hb25]; conv => lhs; whnf)
              try (rw [hb25]; conv => lhs; whnf)
              try (rw [hb25]; conv => lhs; whnf)
              try (rw [hb25]; conv => lhs; whnf)
              try (rw [hb25]; conv => lhs; whnf)
              try (rw [hb25]; conv => lhs; whnf)
              try (rw [hb25]; conv => lhs; whnf)
              try (rw [hb25]; conv => lhs; whnf)
              rw [wrap_nat i17 (by have := hn_i17; omega)]
              exact hnx18 _ _ _ _ (fun kk => by kernel_rfl) h
            · replace h := ifT h (bneT hb25); conv => lhs; whnf
              try (rw [hb25]; conv => lhs; whnf)
              try (rw [hb25]; conv => lhs; whnf)
              try (rw [hb25]; conv => lhs; whnf)
              try (rw [hb25]; conv => lhs; whnf)
              try (rw [hb25]; conv => lhs; whnf)
              obtain ⟨hg31, h⟩ := grd_inv h
              rw [quo_run _ _ _ _ hg31]
              conv => lhs; whnf
              try (rw [hb25]; conv => lhs; whnf)
              try (rw [hb25]; conv => lhs; whnf)
              obtain ⟨y26, h_y26, h⟩ := callK_inv h
              rw [cl_eq hcl (L_spec_l07SpareOf a_0 (IntKind.i64.wrap (Int.tdiv y20 a_0.Geo.Blocks)) x19 h_y26)]
              rotate_left
              · show _ = _; kernel_rfl
              · show _ = _; kernel_rfl
              conv => lhs; whnf
              try (rw [hb25]; conv => lhs; whnf)
              cases hb27 : y26
              · replace h := ifF h (booF hb27); conv => lhs; whnf
                try (rw [hb27]; conv => lhs; whnf)
                try (rw [hb27]; conv => lhs; whnf)
                try (rw [hb27]; conv => lhs; whnf)
                try (rw [hb25]; conv => lhs; whnf)
                try (rw [hb27]; conv => lhs; whnf)
                try (rw [hb25]; conv => lhs; whnf)
                try (rw [hb25]; conv => lhs; whnf)
                obtain rfl := Option.some.inj h; show _ = _; kernel_rfl

              · replace h := ifT h hb27; conv => lhs; whnf
                try (rw [hb27]; conv => lhs; whnf)
                try (rw [hb27]; conv => lhs; whnf)
                try (rw [hb27]; conv => lhs; whnf)
                obtain ⟨y28, h_y28, h⟩ := callK_inv h
                rw [cl_eq hcl (L_spec_l00Has a_0.Bad y20 h_y28)]
                rotate_left
                · show _ = _; kernel_rfl
                · show _ = _; kernel_rfl
                conv => lhs; whnf
                try (rw [hb25]; conv => lhs; whnf)
                try (rw [hb27]; conv => lhs; whnf)
                try (rw [hb25]; conv => lhs; whnf)
                try (rw [hb25]; conv => lhs; whnf)
                cases hb29 : y28
                · replace h := ifF h (booF hb29); conv => lhs; whnf
                  obtain rfl := Option.some.inj h; show _ = _; kernel_rfl

                · replace h := ifT h hb29; conv => lhs; whnf
                  rw [wrap_nat i17 (by have := hn_i17; omega)]
                  exact hnx18 _ _ _ _ (fun kk => by kernel_rfl) h
          · replace h := ifT h hb24; conv => lhs; whnf
            obtain rfl := Option.some.inj h; show _ = _; kernel_rfl

        · replace h := ifT h hb22; conv => lhs; whnf
          try (rw [hb22]; conv => lhs; whnf)
          try (rw [hb22]; conv => lhs; whnf)
          try (rw [hb22]; conv => lhs; whnf)
          try (rw [hb22]; conv => lhs; whnf)
          try (rw [hb22]; conv => lhs; whnf)
          try (rw [hb22]; conv => lhs; whnf)
          obtain rfl := Option.some.inj h; show _ = _; kernel_rfl

      · clear h
        rintro next_nx18 ⟨⟩ r h
        try dsimp only at h
        have hd_i17 : (decide ((a_0.Remap.length : Int) < (a_0.Remap.length : Int))) = false := decide_eq_false (by omega)
        conv => lhs; whnf
        try rw [len_of (l := a_0.Remap) (r := rI)]
        try (first | rw [hd_i17] | (split; (first | (rename_i hx; exact absurd (hd_i17.symm.trans hx) (by decide)) | (rotate_left; rename_i hx; exact absurd (hd_i17.symm.trans hx) (by decide)))))
        conv => lhs; whnf
        obtain rfl := Option.some.inj h; show _ = _; kernel_rfl

    · replace h := ifT h (bneT hb3); conv => lhs; whnf
      obtain rfl := Option.some.inj h; show _ = _; kernel_rfl


noncomputable def p_spec_l07Own (a_0 : Int) (a_1 : Int) (a_2 : Int) (a_3 : Int) (a_4 : List Int) (a_5 : List Int) : Option Unit :=
  callK (p_spec_l00Own a_4) fun y1 =>
  callK (p_spec_l00Own a_5) fun y2 =>
  some ()

set_option maxHeartbeats 4000000 in
theorem L_spec_l07Own (a_0 : Int) (a_1 : Int) (a_2 : Int) (a_3 : Int) (a_4 : List Int) (a_5 : List Int) {r : Unit} (h : p_spec_l07Own a_0 a_1 a_2 a_3 a_4 a_5 = some r) : callL E 224 [.agg [IN a_0, IN a_1, IN a_2, IN a_3, .sl 0, .sl 1]] ([some (.arr 2 1 (a_4.map rI)), some (.arr 2 1 (a_5.map rI))] : Fo) = some (.agg [IN a_0, IN a_1, IN a_2, IN a_3, .sl 2, .sl 3], ([some (.arr 2 1 (a_4.map rI)), some (.arr 2 1 (a_5.map rI)), some (.arr 2 1 (a_4.map rI)), some (.arr 2 1 (a_5.map rI))] : Fo)) := by
  unfold p_spec_l07Own at h
  refine callW (fu := Try.f224) rfl rfl rfl NN ?_
  intro lp cl hlp hcl
  conv => lhs; whnf
  obtain ⟨y1, h_y1, h⟩ := callK_inv h
  rw [cl_eq hcl (L_spec_l00Own a_4 h_y1)]
  rotate_left
  · show _ = _; kernel_rfl
  · show _ = _; kernel_rfl
  conv => lhs; whnf
  obtain ⟨y2, h_y2, h⟩ := callK_inv h
  rw [cl_eq hcl (L_spec_l00Own a_5 h_y2)]
  rotate_left
  · show _ = _; kernel_rfl
  · show _ = _; kernel_rfl
  conv => lhs; whnf
  obtain rfl := Option.some.inj h; show _ = _; kernel_rfl


noncomputable def p_spec_l00Put (a_0 : List Int) (a_1 : Int) : Option (List Int) :=
  grd (a_0.length < 4611686018427387904) <|
  forK a_0 (fun (i10 : Nat) x14 ((v11, v12) : (Bool × (List Int))) (nx13 : (Bool × (List Int)) → Option _) =>
    if v11 = true then
      grd (appOk (v12.length + 1) 8 = true) <|
      nx13 (true, (v12 ++ ([x14] : List Int)))
    else
      if x14 ≥ a_1 then
        if x14 > a_1 then
          grd (appOk (v12.length + 1) 8 = true) <|
          grd (appOk ((v12 ++ ([a_1] : List Int)).length + 1) 8 = true) <|
          nx13 (true, ((v12 ++ ([a_1] : List Int)) ++ ([x14] : List Int)))
        else
          grd (appOk (v12.length + 1) 8 = true) <|
          nx13 (true, (v12 ++ ([x14] : List Int)))
      else
        grd (appOk (v12.length + 1) 8 = true) <|
        nx13 (false, (v12 ++ ([x14] : List Int)))) (false, ([] : List Int)) (fun ((v11, v12) : (Bool × (List Int))) =>
    if v11 = true then
      some v12
    else
      grd (appOk (v12.length + 1) 8 = true) <|
      some (v12 ++ ([a_1] : List Int)))

set_option maxHeartbeats 4000000 in
theorem L_spec_l00Put (a_0 : List Int) (a_1 : Int) {r : (List Int)} (h : p_spec_l00Put a_0 a_1 = some r) : callL E 225 [.d (.arr (a_0.map rI)), IN a_1] ([] : Fo) = some (.sl 0, ([some (.arr 2 1 (r.map rI))] : Fo)) := by
  unfold p_spec_l00Put at h
  refine callW (fu := Try.f225) rfl rfl rfl NN ?_
  intro lp cl hlp hcl
  conv => lhs; whnf
  obtain ⟨hl_i10, h⟩ := grd_inv h
  refine loop_for hlp (l := a_0) hl_i10 (fun (i10 : Nat) ((v11, v12) : (Bool × (List Int))) => ([.d (.arr (a_0.map rI)), IN a_1, .dead, .dead, .dead, .sl 0, BO v11, IN (i10 : Int)] ++ List.replicate 41 .dead : List V)) (fun (i10 : Nat) ((v11, v12) : (Bool × (List Int))) => ([some (.arr 2 1 (v12.map rI))] : Fo)) (fun (r : (List Int)) => ((.sl 0 : V), ([some (.arr 2 1 (r.map rI))] : Fo))) ?_ ?_ (false, ([] : List Int)) _ (fun kk => by kernel_rfl) h
  · clear h
    rintro next_nx13 nx13 i10 hi_i10 hnx13 ⟨v11, v12⟩ r h
    try dsimp only at h
    have hn_i10 : i10 < 4611686018427387904 := by omega
    have hx_x14 := get_map rI a_0 i10 hi_i10
    generalize a_0[i10] = x14 at h hx_x14
    have hd_i10 : (decide ((i10 : Int) < (a_0.length : Int))) = true := decide_eq_true (by omega)
    conv => lhs; whnf
    try rw [len_of (l := a_0) (r := rI)]
    try (first | rw [hd_i10] | (split; (first | (rename_i hx; exact absurd (hd_i10.symm.trans hx) (by decide)) | (rotate_left; rename_i hx; exact absurd (hd_i10.symm.trans hx) (by decide)))))
    conv => lhs; whnf
    cases hb15 : v11
    · replace h := ifF h (booF hb15); conv => lhs; whnf
      try (rw [hb15]; conv => lhs; whnf)
      try (rw [hb15]; conv => lhs; whnf)
      try (rw [decide_eq_true hq_x14]; conv => lhs; whnf)
      rw [hx_x14]
      conv => lhs; whnf
      try (rw [hb15]; conv => lhs; whnf)
      rw [hx_x14]
      conv => lhs; whnf
      try (rw [hb15]; conv => lhs; whnf)
      try (rw [hb15]; conv => lhs; whnf)
      try (rw [hb15]; conv => lhs; whnf)
      cases hb16 : (decide (x14 ≥ a_1))
      · replace h := ifF h (decF hb16); conv => lhs; whnf
        try (rw [decide_eq_true hq_x14]; conv => lhs; whnf)
        rw [hx_x14]
        conv => lhs; whnf
        rw [hx_x14]
        conv => lhs; whnf
        obtain ⟨hg19, h⟩ := grd_inv h
        rw [app_eq hg19 ?h1 ?h2]
        case h1 => first | exact rfl | (simp only [List.length_map, List.length_cons, List.length_nil]; done) | (rw [List.length_map]; rfl)
        case h2 => exact rfl
        conv => lhs; whnf
        first | (rw [map_app_of (r := rI) (l := v12) (m := ([x14] : List Int)) ?hh]; case hh => exact rfl) | skip
        rw [wrap_nat i10 (by have := hn_i10; omega)]
        exact hnx13 _ _ _ _ (fun kk => by kernel_rfl) h
      · replace h := ifT h (decT hb16); conv => lhs; whnf
        try (rw [decide_eq_true hq_x14]; conv => lhs; whnf)
        rw [hx_x14]
        conv => lhs; whnf
        rw [hx_x14]
        conv => lhs; whnf
        cases hb17 : (decide (x14 > a_1))
        · replace h := ifF h (decF hb17); conv => lhs; whnf
          try (rw [decide_eq_true hq_x14]; conv => lhs; whnf)
          rw [hx_x14]
          conv => lhs; whnf
          rw [hx_x14]
          conv => lhs; whnf
          obtain ⟨hg20, h⟩ := grd_inv h
          rw [app_eq hg20 ?h1 ?h2]
          case h1 => first | exact rfl | (simp only [List.length_map, List.length_cons, List.length_nil]; done) | (rw [List.length_map]; rfl)
          case h2 => exact rfl
          conv => lhs; whnf
          first | (rw [map_app_of (r := rI) (l := v12) (m := ([x14] : List Int)) ?hh]; case hh => exact rfl) | skip
          rw [wrap_nat i10 (by have := hn_i10; omega)]
          exact hnx13 _ _ _ _ (fun kk => by kernel_rfl) h
        · replace h := ifT h (decT hb17); conv => lhs; whnf
          obtain ⟨hg21, h⟩ := grd_inv h
          rw [app_eq hg21 ?h1 ?h2]
          case h1 => first | exact rfl | (simp only [List.length_map, List.length_cons, List.length_nil]; done) | (rw [List.length_map]; rfl)
          case h2 => exact rfl
          conv => lhs; whnf
          first | (rw [map_app_of (r := rI) (l := v12) (m := ([a_1] : List Int)) ?hh]; case hh => exact rfl) | skip
          try (rw [decide_eq_true hq_x14]; conv => lhs; whnf)
          rw [hx_x14]
          conv => lhs; whnf
          rw [hx_x14]
          conv => lhs; whnf
          obtain ⟨hg22, h⟩ := grd_inv h
          rw [app_eq hg22 ?h1 ?h2]
          case h1 => first | exact rfl | (simp only [List.length_map, List.length_cons, List.length_nil]; done) | (rw [List.length_map]; rfl)
          case h2 => exact rfl
          conv => lhs; whnf
          first | (rw [map_app_of (r := rI) (l := (v12 ++ ([a_1] : List Int))) (m := ([x14] : List Int)) ?hh]; case hh => exact rfl) | skip
          rw [wrap_nat i10 (by have := hn_i10; omega)]
          exact hnx13 _ _ _ _ (fun kk => by kernel_rfl) h
    · replace h := ifT h hb15; conv => lhs; whnf
      try (rw [hb15]; conv => lhs; whnf)
      try (rw [hb15]; conv => lhs; whnf)
      try (rw [hb15]; conv => lhs; whnf)
      try (rw [hb15]; conv => lhs; whnf)
      try (rw [hb15]; conv => lhs; whnf)
      try (rw [hb15]; conv => lhs; whnf)
      try (rw [decide_eq_true hq_x14]; conv => lhs; whnf)
      rw [hx_x14]
      conv => lhs; whnf
      rw [hx_x14]
      conv => lhs; whnf
      obtain ⟨hg23, h⟩ := grd_inv h
      rw [app_eq hg23 ?h1 ?h2]
      case h1 => first | exact rfl | (simp only [List.length_map, List.length_cons, List.length_nil]; done) | (rw [List.length_map]; rfl)
      case h2 => exact rfl
      conv => lhs; whnf
      first | (rw [map_app_of (r := rI) (l := v12) (m := ([x14] : List Int)) ?hh]; case hh => exact rfl) | skip
      rw [wrap_nat i10 (by have := hn_i10; omega)]
      exact hnx13 _ _ _ _ (fun kk => by kernel_rfl) h
  · clear h
    rintro next_nx13 ⟨v11, v12⟩ r h
    try dsimp only at h
    have hd_i10 : (decide ((a_0.length : Int) < (a_0.length : Int))) = false := decide_eq_false (by omega)
    conv => lhs; whnf
    try rw [len_of (l := a_0) (r := rI)]
    try (first | rw [hd_i10] | (split; (first | (rename_i hx; exact absurd (hd_i10.symm.trans hx) (by decide)) | (rotate_left; rename_i hx; exact absurd (hd_i10.symm.trans hx) (by decide)))))
    conv => lhs; whnf
    cases hb18 : v11
    · replace h := ifF h (booF hb18); conv => lhs; whnf
      obtain ⟨hg24, h⟩ := grd_inv h
      rw [app_eq hg24 ?h1 ?h2]
      case h1 => first | exact rfl | (simp only [List.length_map, List.length_cons, List.length_nil]; done) | (rw [List.length_map]; rfl)
      case h2 => exact rfl
      conv => lhs; whnf
      first | (rw [map_app_of (r := rI) (l := v12) (m := ([a_1] : List Int)) ?hh]; case hh => exact rfl) | skip
      obtain rfl := Option.some.inj h; show _ = _; kernel_rfl

    · replace h := ifT h hb18; conv => lhs; whnf
      obtain rfl := Option.some.inj h; show _ = _; kernel_rfl


noncomputable def p_spec_l07Holder (a_0 : BadTable) (a_1 : Int) : Option Int :=
  grd (a_0.Remap.length < 4611686018427387904) <|
  forK a_0.Remap (fun (i5 : Nat) x7 (_ : Unit) (nx6 : Unit → Option _) =>
    if x7 = a_1 then
      some (i5 : Int)
    else
      nx6 ()) () (fun (_ : Unit) =>
    some (-1))

set_option maxHeartbeats 4000000 in
theorem L_spec_l07Holder (a_0 : BadTable) (a_1 : Int) {r : Int} (h : p_spec_l07Holder a_0 a_1 = some r) : callL E 226 [.agg [IN a_0.Geo.Dies, IN a_0.Geo.Blocks, IN a_0.Geo.Pages, IN a_0.Spare, .d (.arr (a_0.Bad.map rI)), .d (.arr (a_0.Remap.map rI))], IN a_1] ([] : Fo) = some (IN r, ([] : Fo)) := by
  unfold p_spec_l07Holder at h
  refine callW (fu := Try.f226) rfl rfl rfl NN ?_
  intro lp cl hlp hcl
  conv => lhs; whnf
  obtain ⟨hl_i5, h⟩ := grd_inv h
  refine loop_for hlp (l := a_0.Remap) hl_i5 (fun (i5 : Nat) (_ : Unit) => ([.dead, IN a_1, .bp 0 0, .dead, .dead, IN (i5 : Int)] ++ List.replicate 15 .dead : List V)) (fun (i5 : Nat) (_ : Unit) => ([some (.box [IN a_0.Geo.Dies, IN a_0.Geo.Blocks, IN a_0.Geo.Pages, IN a_0.Spare, .d (.arr (a_0.Bad.map rI)), .d (.arr (a_0.Remap.map rI))])] : Fo)) (fun (r : Int) => ((IN r : V), ([] : Fo))) ?_ ?_ () _ (fun kk => by kernel_rfl) h
  · clear h
    rintro next_nx6 nx6 i5 hi_i5 hnx6 ⟨⟩ r h
    try dsimp only at h
    have hn_i5 : i5 < 4611686018427387904 := by omega
    have hx_x7 := get_map rI a_0.Remap i5 hi_i5
    generalize a_0.Remap[i5] = x7 at h hx_x7
    have hd_i5 : (decide ((i5 : Int) < (a_0.Remap.length : Int))) = true := decide_eq_true (by omega)
    conv => lhs; whnf
    try rw [len_of (l := a_0.Remap) (r := rI)]
    try (first | rw [hd_i5] | (split; (first | (rename_i hx; exact absurd (hd_i5.symm.trans hx) (by decide)) | (rotate_left; rename_i hx; exact absurd (hd_i5.symm.trans hx) (by decide)))))
    conv => lhs; whnf
    try (rw [decide_eq_true hq_x7]; conv => lhs; whnf)
    rw [hx_x7]
    conv => lhs; whnf
    rw [hx_x7]
    conv => lhs; whnf
    cases hb8 : (x7 == a_1)
    · replace h := ifF h (beqF hb8); conv => lhs; whnf
      rw [wrap_nat i5 (by have := hn_i5; omega)]
      exact hnx6 _ _ _ _ (fun kk => by kernel_rfl) h
    · replace h := ifT h (beqT hb8); conv => lhs; whnf
      obtain rfl := Option.some.inj h; show _ = _; kernel_rfl

  · clear h
    rintro next_nx6 ⟨⟩ r h
    try dsimp only at h
    have hd_i5 : (decide ((a_0.Remap.length : Int) < (a_0.Remap.length : Int))) = false := decide_eq_false (by omega)
    conv => lhs; whnf
    try rw [len_of (l := a_0.Remap) (r := rI)]
    try (first | rw [hd_i5] | (split; (first | (rename_i hx; exact absurd (hd_i5.symm.trans hx) (by decide)) | (rotate_left; rename_i hx; exact absurd (hd_i5.symm.trans hx) (by decide)))))
    conv => lhs; whnf
    obtain rfl := Option.some.inj h; show _ = _; kernel_rfl


noncomputable def p_spec_RetireBlock (a_0 : Int) (a_1 : Int) (a_2 : Int) (a_3 : Int) (a_4 : Int) (a_5 : List Int) (a_6 : List Int) : Option (Int × Int × Int × Int × Int × (List Int) × (List Int)) :=
  callK (p_spec_ValidBadTable (⟨⟨a_0, a_1, a_2⟩, a_3, a_5, a_6⟩ : BadTable)) fun y1 =>
  if y1 = true then
    callK (p_spec_l07Count (⟨a_0, a_1, a_2⟩ : Geometry)) fun y3 =>
    if (inR a_4 0 (IntKind.i64.wrap (y3 - 1))) = true then
      callK (p_spec_l00Has a_5 a_4) fun y5 =>
      if y5 = true then
        some (0, 0, 0, 0, 5, ([] : List Int), ([] : List Int))
      else
        callK (p_spec_l07Own a_0 a_1 a_2 a_3 a_5 a_6) fun y7 =>
        callK (p_spec_l00Put a_5 a_4) fun y8 =>
        callK (p_spec_l07Holder (⟨⟨a_0, a_1, a_2⟩, a_3, a_5, a_6⟩ : BadTable) a_4) fun y9 =>
        if y9 < 0 then
          some (a_0, a_1, a_2, a_3, 0, y8, a_6)
        else
          grd (a_1 ≠ 0) <|
          callK (p_spec_l07Available a_0 a_1 a_2 a_3 (IntKind.i64.wrap (Int.tdiv a_4 a_1)) y8 a_6) fun y11 =>
          if (y11.length : Int) = 0 then
            some (0, 0, 0, 0, 4, ([] : List Int), ([] : List Int))
          else
            getK y11 0 fun x13 =>
            getK a_6 y9 fun x14 =>
            some (a_0, a_1, a_2, a_3, 0, y8, (a_6.set (Int.toNat y9) x13))
    else
      some (0, 0, 0, 0, 2, ([] : List Int), ([] : List Int))
  else
    some (0, 0, 0, 0, 1, ([] : List Int), ([] : List Int))

set_option maxHeartbeats 4000000 in
theorem L_spec_RetireBlock (a_0 : Int) (a_1 : Int) (a_2 : Int) (a_3 : Int) (a_4 : Int) (a_5 : List Int) (a_6 : List Int) {r : (Int × Int × Int × Int × Int × (List Int) × (List Int))} (h : p_spec_RetireBlock a_0 a_1 a_2 a_3 a_4 a_5 a_6 = some r) : callL E 138 [.agg [IN a_0, IN a_1, IN a_2, IN a_3, .sl 0, .sl 1], IN a_4] ([some (.arr 2 1 (a_5.map rI)), some (.arr 2 1 (a_6.map rI))] : Fo) = some (.tup [.agg [IN r.1, IN r.2.1, IN r.2.2.1, IN r.2.2.2.1, .sl 2, .sl 3], IN r.2.2.2.2.1], ([some (.arr 2 1 (a_5.map rI)), some (.arr 2 1 (a_6.map rI)), some (.arr 2 1 (r.2.2.2.2.2.1.map rI)), some (.arr 2 1 (r.2.2.2.2.2.2.map rI))] : Fo)) := by
  unfold p_spec_RetireBlock at h
  refine callW (fu := Try.f138) rfl rfl rfl NN ?_
  intro lp cl hlp hcl
  conv => lhs; whnf
  obtain ⟨y1, h_y1, h⟩ := callK_inv h
  rw [cl_eq hcl (L_spec_ValidBadTable (⟨⟨a_0, a_1, a_2⟩, a_3, a_5, a_6⟩ : BadTable) h_y1)]
  rotate_left
  · show _ = _; kernel_rfl
  · show _ = _; kernel_rfl
  conv => lhs; whnf
  cases hb2 : y1
  · replace h := ifF h (booF hb2); conv => lhs; whnf
    obtain rfl := Option.some.inj h; show _ = _; kernel_rfl

  · replace h := ifT h hb2
    try rw [hb2] at h
    conv => lhs; whnf
    obtain ⟨y3, h_y3, h⟩ := callK_inv h
    rw [cl_eq hcl (L_spec_l07Count (⟨a_0, a_1, a_2⟩ : Geometry) h_y3)]
    rotate_left
    · show _ = _; kernel_rfl
    · show _ = _; kernel_rfl
    conv => lhs; whnf
    rw [cl_eq hcl (L_spec_l00In a_4 0 (IntKind.i64.wrap (y3 - 1)) (pl_l00In a_4 0 (IntKind.i64.wrap (y3 - 1))))]
    rotate_left
    · show _ = _; kernel_rfl
    · show _ = _; kernel_rfl
    conv => lhs; whnf
    cases hb4 : (inR a_4 0 (IntKind.i64.wrap (y3 - 1)))
    · replace h := ifF h (booF hb4); conv => lhs; whnf
      obtain rfl := Option.some.inj h; show _ = _; kernel_rfl

    · replace h := ifT h hb4; conv => lhs; whnf
      obtain ⟨y5, h_y5, h⟩ := callK_inv h
      rw [cl_eq hcl (L_spec_l00Has a_5 a_4 h_y5)]
      rotate_left
      · show _ = _; kernel_rfl
      · show _ = _; kernel_rfl
      conv => lhs; whnf
      cases hb6 : y5
      · replace h := ifF h (booF hb6); conv => lhs; whnf
        obtain ⟨y7, h_y7, h⟩ := callK_inv h
        rw [cl_eq hcl (L_spec_l07Own a_0 a_1 a_2 a_3 a_5 a_6 h_y7)]
        rotate_left
        · show _ = _; kernel_rfl
        · show _ = _; kernel_rfl
        conv => lhs; whnf
        obtain ⟨y8, h_y8, h⟩ := callK_inv h
        rw [cl_eq hcl (L_spec_l00Put a_5 a_4 h_y8)]
        rotate_left
        · show _ = _; kernel_rfl
        · show _ = _; kernel_rfl
        conv => lhs; whnf
        obtain ⟨y9, h_y9, h⟩ := callK_inv h
        rw [cl_eq hcl (L_spec_l07Holder (⟨⟨a_0, a_1, a_2⟩, a_3, a_5, a_6⟩ : BadTable) a_4 h_y9)]
        rotate_left
        · show _ = _; kernel_rfl
        · show _ = _; kernel_rfl
        conv => lhs; whnf
        cases hb10 : (decide (y9 < 0))
        · replace h := ifF h (decF hb10); conv => lhs; whnf
          obtain ⟨hg15, h⟩ := grd_inv h
          rw [quo_run _ _ _ _ hg15]
          conv => lhs; whnf
          obtain ⟨y11, h_y11, h⟩ := callK_inv h
          rw [cl_eq hcl (L_spec_l07Available a_0 a_1 a_2 a_3 (IntKind.i64.wrap (Int.tdiv a_4 a_1)) y8 a_6 h_y11)]
          rotate_left
          · show _ = _; kernel_rfl
          · show _ = _; kernel_rfl
          conv => lhs; whnf
          try rw [len_of (l := y11) (r := rI)]
          cases hb12 : ((y11.length : Int) == 0)
          · replace h := ifF h (beqF hb12); conv => lhs; whnf
            obtain ⟨x13, hq_x13, hx_x13', h⟩ := getK_inv h
            have hx_x13 := get_of (r := rI) hx_x13'
            try (rw [decide_eq_true hq_x13]; conv => lhs; whnf)
            rw [hx_x13]
            conv => lhs; whnf
            rw [hx_x13]
            conv => lhs; whnf
            obtain ⟨x14, hq_x14, hx_x14', h⟩ := getK_inv h
            have hx_x14 := get_of (r := rI) hx_x14'
            try (rw [decide_eq_true hq_x14]; conv => lhs; whnf)
            rw [hx_x14]
            conv => lhs; whnf
            rw [hx_x14]
            conv => lhs; whnf
            first | (rw [map_set_of (r := rI) (l := a_6) (x := x13) ?hh]; case hh => exact rfl) | skip
            obtain rfl := Option.some.inj h; show _ = _; kernel_rfl

          · replace h := ifT h (beqT hb12); conv => lhs; whnf
            obtain rfl := Option.some.inj h; show _ = _; kernel_rfl

        · replace h := ifT h (decT hb10); conv => lhs; whnf
          obtain rfl := Option.some.inj h; show _ = _; kernel_rfl

      · replace h := ifT h hb6; conv => lhs; whnf
        obtain rfl := Option.some.inj h; show _ = _; kernel_rfl


noncomputable def p_spec_l07Draw (a_0 : Sl00Src) : Option (Int × Int × Int × Int × Sl00Src × (List Int) × (List Int)) :=
  callK (p_spec_l07Geo a_0) fun y1 =>
  iterK (fun ((v2, v3, v4) : (Int × Sl00Src × (List Int))) (nx5 : (Int × Sl00Src × (List Int)) → Option _) =>
    callK (p_spec_l07Count y1.1) fun y6 =>
    if v2 < y6 then
      callK (p_spec_l00Src_one 9 v3) fun y8 =>
      if y8.1 = true then
        grd (appOk (v4.length + 1) 8 = true) <|
        nx5 ((IntKind.i64.wrap (v2 + 1)), y8.2, (v4 ++ ([v2] : List Int)))
      else
        nx5 ((IntKind.i64.wrap (v2 + 1)), y8.2, v4)
    else
      callK (p_spec_l00Src_pick 2 v3) fun y10 =>
      callK (p_spec_NewBadTable y1.1 (IntKind.i64.wrap (1 + y10.1)) v4) fun y11 =>
      if ¬ y11.2.2.2.2.1 = 0 then
        callK (p_spec_l00Src_pick 2 y10.2) fun y13 =>
        callK (p_spec_NewBadTable' y1.1 (IntKind.i64.wrap (1 + y13.1)) ([] : List Int)) fun y14 =>
        callK (p_spec_l00Src_pick 4 y13.2) fun y15 =>
        iterK (fun ((v16, v17, v18, v19, v20, v21, v22, v23) : (Int × Sl00Src × Int × Int × Int × Int × (List Int) × (List Int))) (nx24 : (Int × Sl00Src × Int × Int × Int × Int × (List Int) × (List Int)) → Option _) =>
          if v16 > 0 then
            callK (p_spec_l07Count y1.1) fun y26 =>
            callK (p_spec_l00Src_pick y26 v17) fun y27 =>
            callK (p_spec_RetireBlock v18 v19 v20 v21 y27.1 v22 v23) fun y28 =>
            if y28.2.2.2.2.1 = 0 then
              nx24 ((IntKind.i64.wrap (v16 - 1)), y27.2, y28.1, y28.2.1, y28.2.2.1, y28.2.2.2.1, y28.2.2.2.2.2.1, y28.2.2.2.2.2.2)
            else
              nx24 ((IntKind.i64.wrap (v16 - 1)), y27.2, v18, v19, v20, v21, v22, v23)
          else
            callK (p_spec_l00Src_one 10 v17) fun y30 =>
            if y30.1 = true then
              callK (p_spec_l00Src_pick 4 y30.2) fun y32 =>
              if y32.1 = 0 then
                callK (p_spec_l00Src_among' y32.2 ([0, (IntKind.i64.wrap (v19 - 1)), 4, 5] : List Int)) fun y34 =>
                some (v18, v19, v20, y34.1, y34.2, v22, v23)
              else
                if y32.1 = 1 then
                  callK (p_spec_l00Src_among' y32.2 ([(-1), 0, 50] : List Int)) fun y36 =>
                  grd (appOk (v22.length + 1) 8 = true) <|
                  some (v18, v19, v20, v21, y36.2, (v22 ++ ([y36.1] : List Int)), v23)
                else
                  if y32.1 = 2 then
                    if (v23.length : Int) > 0 then
                      callK (p_spec_l00Src_pick (v23.length : Int) y32.2) fun y39 =>
                      callK (p_spec_l07Count y1.1) fun y40 =>
                      callK (p_spec_l00Src_pick y40 y39.2) fun y41 =>
                      getK v23 y39.1 fun x42 =>
                      some (v18, v19, v20, v21, y41.2, v22, (v23.set (Int.toNat y39.1) y41.1))
                    else
                      some (v18, v19, v20, v21, y32.2, v22, v23)
                  else
                    if y32.1 = 3 then
                      callK (p_spec_l00Src_among' y32.2 ([1, 3, 4] : List Int)) fun y44 =>
                      some (y44.1, v19, v20, v21, y44.2, v22, v23)
                    else
                      some (v18, v19, v20, v21, y32.2, v22, v23)
            else
              some (v18, v19, v20, v21, y30.2, v22, v23)) NN (y15.1, y15.2, y14.1, y14.2.1, y14.2.2.1, y14.2.2.2.1, y14.2.2.2.2.2.1, y14.2.2.2.2.2.2)
      else
        callK (p_spec_l00Src_pick 4 y10.2) fun y45 =>
        iterK (fun ((v46, v47, v48, v49, v50, v51, v52, v53) : (Int × Sl00Src × Int × Int × Int × Int × (List Int) × (List Int))) (nx54 : (Int × Sl00Src × Int × Int × Int × Int × (List Int) × (List Int)) → Option _) =>
          if v46 > 0 then
            callK (p_spec_l07Count y1.1) fun y56 =>
            callK (p_spec_l00Src_pick y56 v47) fun y57 =>
            callK (p_spec_RetireBlock v48 v49 v50 v51 y57.1 v52 v53) fun y58 =>
            if y58.2.2.2.2.1 = 0 then
              nx54 ((IntKind.i64.wrap (v46 - 1)), y57.2, y58.1, y58.2.1, y58.2.2.1, y58.2.2.2.1, y58.2.2.2.2.2.1, y58.2.2.2.2.2.2)
            else
              nx54 ((IntKind.i64.wrap (v46 - 1)), y57.2, v48, v49, v50, v51, v52, v53)
          else
            callK (p_spec_l00Src_one 10 v47) fun y60 =>
            if y60.1 = true then
              callK (p_spec_l00Src_pick 4 y60.2) fun y62 =>
              if y62.1 = 0 then
                callK (p_spec_l00Src_among' y62.2 ([0, (IntKind.i64.wrap (v49 - 1)), 4, 5] : List Int)) fun y64 =>
                some (v48, v49, v50, y64.1, y64.2, v52, v53)
              else
                if y62.1 = 1 then
                  callK (p_spec_l00Src_among' y62.2 ([(-1), 0, 50] : List Int)) fun y66 =>
                  grd (appOk (v52.length + 1) 8 = true) <|
                  some (v48, v49, v50, v51, y66.2, (v52 ++ ([y66.1] : List Int)), v53)
                else
                  if y62.1 = 2 then
                    if (v53.length : Int) > 0 then
                      callK (p_spec_l00Src_pick (v53.length : Int) y62.2) fun y69 =>
                      callK (p_spec_l07Count y1.1) fun y70 =>
                      callK (p_spec_l00Src_pick y70 y69.2) fun y71 =>
                      getK v53 y69.1 fun x72 =>
                      some (v48, v49, v50, v51, y71.2, v52, (v53.set (Int.toNat y69.1) y71.1))
                    else
                      some (v48, v49, v50, v51, y62.2, v52, v53)
                  else
                    if y62.1 = 3 then
                      callK (p_spec_l00Src_among' y62.2 ([1, 3, 4] : List Int)) fun y74 =>
                      some (y74.1, v49, v50, v51, y74.2, v52, v53)
                    else
                      some (v48, v49, v50, v51, y62.2, v52, v53)
            else
              some (v48, v49, v50, v51, y60.2, v52, v53)) NN (y45.1, y45.2, y11.1, y11.2.1, y11.2.2.1, y11.2.2.2.1, y11.2.2.2.2.2.1, y11.2.2.2.2.2.2)) NN (0, y1.2, ([] : List Int))

end Go.Proofs.Ytjnhclnnobejgaa.T12

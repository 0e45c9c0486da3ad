/- FnSpares: what its functions come to, and the row; conditions: none. -/
import Derived.Test.YtadppokohnonpaaT03
import Derived.Test.YtadppokohnonpaaEz
import Derived.Test.YtadppokohnonpaaRows
import Derived.WalkKit
import Derived.ProofKit
import Derived.OpenShut
import Derived.ShutString
import Derived.ChangeOld
import Derived.Below
import Derived.SizedLaws
namespace Go.Proofs.Ytadppokohnonpaa.T03
open Go.Proofs.YtadppokohnonpaaE
set_option maxRecDepth 100000
set_option linter.unusedVariables false
set_option linter.unusedSimpArgs false

noncomputable def p_spec_l00In (a_0 : Int) (a_1 : Int) (a_2 : Int) : Option Bool :=
  if a_0 ≥ a_1 then
    some (decide (a_0 ≤ a_2))
  else
    some false

set_option maxHeartbeats 4000000 in
theorem L_spec_l00In (a_0 : Int) (a_1 : Int) (a_2 : Int) {r : Bool} (h : p_spec_l00In a_0 a_1 a_2 = some r) : callL E 113 [IN a_0, IN a_1, IN a_2] ([] : Fo) = some (BO r, ([] : Fo)) := by
  unfold p_spec_l00In at h
  refine callW (fu := Try.f113) rfl rfl rfl NN ?_
  intro lp cl hlp hcl
  conv => lhs; whnf
  cases hb1 : (decide (a_0 ≥ a_1))
  · replace h := ifF h (decF hb1); conv => lhs; whnf
    try (rw [hb1]; conv => lhs; whnf)
    try (rw [hb1]; conv => lhs; whnf)
    try (rw [hb1]; conv => lhs; whnf)
    obtain rfl := Option.some.inj h; show _ = _; kernel_rfl
  · replace h := ifT h (decT hb1); conv => lhs; whnf
    try (rw [hb1]; conv => lhs; whnf)
    try (rw [hb1]; conv => lhs; whnf)
    try (rw [hb1]; conv => lhs; whnf)
    obtain rfl := Option.some.inj h; show _ = _; kernel_rfl
theorem pl_l00In (n lo hi : Int) : p_spec_l00In n lo hi = some (inR n lo hi) := by
  unfold p_spec_l00In inR
  split
  · rename_i h; simp [h]
  · rename_i h; simp [h]


noncomputable def p_impl_within (a_0 : Int) (a_1 : Int) (a_2 : Int) : Option Bool :=
  if a_0 ≥ a_1 then
    some (decide (a_0 ≤ a_2))
  else
    some false

set_option maxHeartbeats 4000000 in
theorem L_impl_within (a_0 : Int) (a_1 : Int) (a_2 : Int) {r : Bool} (h : p_impl_within a_0 a_1 a_2 = some r) : callL E 109 [IN a_0, IN a_1, IN a_2] ([] : Fo) = some (BO r, ([] : Fo)) := by
  unfold p_impl_within at h
  refine callW (fu := Try.f109) rfl rfl rfl NN ?_
  intro lp cl hlp hcl
  conv => lhs; whnf
  cases hb1 : (decide (a_0 ≥ a_1))
  · replace h := ifF h (decF hb1); conv => lhs; whnf
    try (rw [hb1]; conv => lhs; whnf)
    try (rw [hb1]; conv => lhs; whnf)
    try (rw [hb1]; conv => lhs; whnf)
    obtain rfl := Option.some.inj h; show _ = _; kernel_rfl
  · replace h := ifT h (decT hb1); conv => lhs; whnf
    try (rw [hb1]; conv => lhs; whnf)
    try (rw [hb1]; conv => lhs; whnf)
    try (rw [hb1]; conv => lhs; whnf)
    obtain rfl := Option.some.inj h; show _ = _; kernel_rfl
theorem pl_within (n lo hi : Int) : p_impl_within n lo hi = some (inR n lo hi) := by
  unfold p_impl_within inR
  split
  · rename_i h; simp [h]
  · rename_i h; simp [h]



structure Sl00Src where
  Code : List Int
  At : Int
  Seed : Int
def rSl00Src (x : Sl00Src) : List D := [.arr (x.Code.map rU), dI x.At, .lit (.int .u64 x.Seed)]
theorem rSl00Src_len : ∀ x, (rSl00Src x).length = 3 := fun _ => rfl

noncomputable def p_spec_l00From (a_0 : List Int) : Option Sl00Src :=
  some (⟨a_0, 0, 0⟩ : Sl00Src)

set_option maxHeartbeats 4000000 in
theorem L_spec_l00From (a_0 : List Int) {r : Sl00Src} (h : p_spec_l00From a_0 = some r) : callL E 105 [.d (.arr (a_0.map rU))] ([] : Fo) = some (.bp 0 0, ([some (.box [.d (.arr (r.Code.map rU)), IN r.At, .d (.lit (.int .u64 r.Seed))])] : Fo)) := by
  unfold p_spec_l00From at h
  refine callW (fu := Try.f105) rfl rfl rfl NN ?_
  intro lp cl hlp hcl
  conv => lhs; whnf
  obtain rfl := Option.some.inj h; show _ = _; kernel_rfl

noncomputable def p_spec_l00Src_next (a_0 : Sl00Src) : Option (Int × Sl00Src) :=
  if a_0.At < (a_0.Code.length : Int) then
    getK a_0.Code a_0.At fun x2 =>
    if (IntKind.i64.wrap (a_0.At + 1)) ≤ (a_0.Code.length : Int) then
      some ((IntKind.i64.wrap x2), (⟨a_0.Code, (IntKind.i64.wrap (a_0.At + 1)), (IntKind.u64.wrap ((IntKind.u64.wrap ((IntKind.u64.wrap (a_0.Seed * 6364136223846793005)) + (IntKind.u64.wrap (IntKind.i64.wrap x2)))) + 1442695040888963407))⟩ : Sl00Src))
    else
      some ((IntKind.i64.wrap (andK .u64 (Int.fdiv (IntKind.u64.wrap ((IntKind.u64.wrap ((IntKind.u64.wrap (a_0.Seed * 6364136223846793005)) + (IntKind.u64.wrap (IntKind.i64.wrap x2)))) + 1442695040888963407)) (2 ^ (min (Int.toNat 40) IntKind.u64.bits))) 255)), (⟨a_0.Code, (IntKind.i64.wrap (a_0.At + 1)), (IntKind.u64.wrap ((IntKind.u64.wrap ((IntKind.u64.wrap (a_0.Seed * 6364136223846793005)) + (IntKind.u64.wrap (IntKind.i64.wrap x2)))) + 1442695040888963407))⟩ : Sl00Src))
  else
    if (IntKind.i64.wrap (a_0.At + 1)) ≤ (a_0.Code.length : Int) then
      some (0, (⟨a_0.Code, (IntKind.i64.wrap (a_0.At + 1)), (IntKind.u64.wrap ((IntKind.u64.wrap ((IntKind.u64.wrap (a_0.Seed * 6364136223846793005)) + (IntKind.u64.wrap 0))) + 1442695040888963407))⟩ : Sl00Src))
    else
      some ((IntKind.i64.wrap (andK .u64 (Int.fdiv (IntKind.u64.wrap ((IntKind.u64.wrap ((IntKind.u64.wrap (a_0.Seed * 6364136223846793005)) + (IntKind.u64.wrap 0))) + 1442695040888963407)) (2 ^ (min (Int.toNat 40) IntKind.u64.bits))) 255)), (⟨a_0.Code, (IntKind.i64.wrap (a_0.At + 1)), (IntKind.u64.wrap ((IntKind.u64.wrap ((IntKind.u64.wrap (a_0.Seed * 6364136223846793005)) + (IntKind.u64.wrap 0))) + 1442695040888963407))⟩ : Sl00Src))

set_option maxHeartbeats 4000000 in
theorem L_spec_l00Src_next (a_0 : Sl00Src) {r : (Int × Sl00Src)} (h : p_spec_l00Src_next a_0 = some r) : callL E 262 [.bp 0 0] ([some (.box [.d (.arr (a_0.Code.map rU)), IN a_0.At, .d (.lit (.int .u64 a_0.Seed))])] : Fo) = some (IN r.1, ([some (.box [.d (.arr (r.2.Code.map rU)), IN r.2.At, .d (.lit (.int .u64 r.2.Seed))])] : Fo)) := by
  unfold p_spec_l00Src_next at h
  refine callW (fu := Try.f262) rfl rfl rfl NN ?_
  intro lp cl hlp hcl
  conv => lhs; whnf
  try rw [len_of (l := a_0.Code) (r := rU)]
  cases hb1 : (decide (a_0.At < (a_0.Code.length : Int)))
  · replace h := ifF h (decF hb1); conv => lhs; whnf
    try rw [len_of (l := a_0.Code) (r := rU)]
    cases hb4 : (decide ((IntKind.i64.wrap (a_0.At + 1)) ≤ (a_0.Code.length : Int)))
    · replace h := ifF h (decF hb4); conv => lhs; whnf
      obtain rfl := Option.some.inj h; show _ = _; kernel_rfl
    · replace h := ifT h (decT hb4); conv => lhs; whnf
      obtain rfl := Option.some.inj h; show _ = _; kernel_rfl
  · replace h := ifT h (decT hb1); conv => lhs; whnf
    obtain ⟨x2, hq_x2, hx_x2', h⟩ := getK_inv h
    have hx_x2 := get_of (r := rU) hx_x2'
    try (rw [decide_eq_true hq_x2]; conv => lhs; whnf)
    rw [hx_x2]
    conv => lhs; whnf
    rw [hx_x2]
    conv => lhs; whnf
    try rw [len_of (l := a_0.Code) (r := rU)]
    cases hb3 : (decide ((IntKind.i64.wrap (a_0.At + 1)) ≤ (a_0.Code.length : Int)))
    · replace h := ifF h (decF hb3); conv => lhs; whnf
      obtain rfl := Option.some.inj h; show _ = _; kernel_rfl
    · replace h := ifT h (decT hb3); conv => lhs; whnf
      obtain rfl := Option.some.inj h; show _ = _; kernel_rfl

noncomputable def p_spec_l00Src_pick (a_0 : Int) (a_1 : Sl00Src) : Option (Int × Sl00Src) :=
  if a_0 ≤ 1 then
    some (0, a_1)
  else
    callK (p_spec_l00Src_next a_1) fun y2 =>
    if a_0 > 200 then
      callK (p_spec_l00Src_next y2.2) fun y4 =>
      grd (a_0 ≠ 0) <|
      some ((Int.tmod (IntKind.i64.wrap ((IntKind.i64.wrap (y2.1 * 256)) + y4.1)) a_0), y4.2)
    else
      grd (a_0 ≠ 0) <|
      some ((Int.tmod y2.1 a_0), y2.2)

set_option maxHeartbeats 4000000 in
theorem L_spec_l00Src_pick (a_0 : Int) (a_1 : Sl00Src) {r : (Int × Sl00Src)} (h : p_spec_l00Src_pick a_0 a_1 = some r) : callL E 167 [.bp 0 0, IN a_0] ([some (.box [.d (.arr (a_1.Code.map rU)), IN a_1.At, .d (.lit (.int .u64 a_1.Seed))])] : Fo) = some (IN r.1, ([some (.box [.d (.arr (r.2.Code.map rU)), IN r.2.At, .d (.lit (.int .u64 r.2.Seed))])] : Fo)) := by
  unfold p_spec_l00Src_pick at h
  refine callW (fu := Try.f167) rfl rfl rfl NN ?_
  intro lp cl hlp hcl
  conv => lhs; whnf
  cases hb1 : (decide (a_0 ≤ 1))
  · replace h := ifF h (decF hb1); conv => lhs; whnf
    obtain ⟨y2, h_y2, h⟩ := callK_inv h
    rw [cl_eq hcl (L_spec_l00Src_next a_1 h_y2)]
    rotate_left
    · show _ = _; kernel_rfl
    · show _ = _; kernel_rfl
    conv => lhs; whnf
    cases hb3 : (decide (a_0 > 200))
    · replace h := ifF h (decF hb3); conv => lhs; whnf
      obtain ⟨hg5, h⟩ := grd_inv h
      rw [rem_run _ _ _ _ hg5]
      conv => lhs; whnf
      obtain rfl := Option.some.inj h; show _ = _; kernel_rfl
    · replace h := ifT h (decT hb3); conv => lhs; whnf
      obtain ⟨y4, h_y4, h⟩ := callK_inv h
      rw [cl_eq hcl (L_spec_l00Src_next y2.2 h_y4)]
      rotate_left
      · show _ = _; kernel_rfl
      · show _ = _; kernel_rfl
      conv => lhs; whnf
      obtain ⟨hg6, h⟩ := grd_inv h
      rw [rem_run _ _ _ _ hg6]
      conv => lhs; whnf
      obtain rfl := Option.some.inj h; show _ = _; kernel_rfl
  · replace h := ifT h (decT hb1); conv => lhs; whnf
    obtain rfl := Option.some.inj h; show _ = _; kernel_rfl
/-- A source of choices from which as many may still be drawn. -/
structure SrcOk (b : Int) (s : Sl00Src) : Prop where
  code : ∀ x ∈ s.Code, 0 ≤ x ∧ x ≤ 255
  len : s.Code.length ≤ 1048576
  lo : 0 ≤ s.At
  hi : s.At + b ≤ 4611686018427387904
theorem SrcOk.le {b c : Int} {s : Sl00Src} (h : SrcOk b s) (hc : c ≤ b) : SrcOk c s := ⟨h.1, h.2, h.3, by have := h.4; omega⟩
theorem nxV_in (sd : Int) : 0 ≤ IntKind.i64.wrap (andK .u64 sd 255) ∧ IntKind.i64.wrap (andK .u64 sd 255) ≤ 255 := by
  unfold andK
  generalize BitVec.ofInt IntKind.u64.bits sd = a
  have h1 : (a &&& BitVec.ofInt IntKind.u64.bits 255).toNat ≤ 255 := by
    rw [BitVec.toNat_and]
    exact Nat.le_trans Nat.and_le_right (by decide)
  generalize (a &&& BitVec.ofInt IntKind.u64.bits 255).toNat = m at h1
  have e1 : IntKind.u64.wrap (m : Int) = m := by unfold IntKind.wrap; simp [IntKind.signed, IntKind.bits]; omega
  rw [e1, wrap_sm _ (by omega) (by omega)]
  omega
theorem next_ok {b : Int} {s : Sl00Src} (hb : 0 ≤ b) (h : SrcOk (b + 1) s) : ∃ v s', p_spec_l00Src_next s = some (v, s') ∧ (0 ≤ v ∧ v ≤ 255) ∧ SrcOk b s' := by
  obtain ⟨h1, h2, h3, h4⟩ := h
  have hw : IntKind.i64.wrap (s.At + 1) = s.At + 1 := wrap_sm _ (by omega) (by omega)
  unfold p_spec_l00Src_next
  rw [hw]
  split
  · rename_i hlt
    rw [getK_in h3 hlt]
    have hb := h1 _ (List.getElem_mem (show s.At.toNat < s.Code.length by omega))
    rw [if_pos (by omega)]
    exact ⟨_, _, rfl, by rw [wrap_sm _ (by omega) (by omega)]; exact hb, h1, h2, by show 0 ≤ s.At + 1; omega, by show s.At + 1 + b ≤ _; omega⟩
  · rename_i hlt
    rw [if_neg (by omega)]
    exact ⟨_, _, rfl, nxV_in _, h1, h2, by show 0 ≤ s.At + 1; omega, by show s.At + 1 + b ≤ _; omega⟩
theorem pick_ok {b : Int} {s : Sl00Src} (m : Int) (hb : 0 ≤ b) (h : SrcOk (b + 2) s) : ∃ r s', p_spec_l00Src_pick m s = some (r, s') ∧ (0 ≤ r ∧ (1 < m → r < m) ∧ (m ≤ 1 → r = 0)) ∧ SrcOk b s' := by
  unfold p_spec_l00Src_pick
  split
  · rename_i hm
    exact ⟨0, s, rfl, ⟨by omega, fun h => by omega, fun _ => rfl⟩, h.le (by omega)⟩
  · rename_i hm
    obtain ⟨v1, s1, e1, b1, o1⟩ := next_ok (b := b + 1) (by omega) (h.le (by omega))
    rw [e1, callK_some]
    split
    · obtain ⟨v2, s2, e2, b2, o2⟩ := next_ok hb o1
      rw [e2, callK_some, grd_pos (by omega)]
      have w1 : IntKind.i64.wrap (v1 * 256) = v1 * 256 := wrap_sm _ (by omega) (by omega)
      have w2 : IntKind.i64.wrap (v1 * 256 + v2) = v1 * 256 + v2 := wrap_sm _ (by omega) (by omega)
      refine ⟨_, _, rfl, ?_, o2⟩
      show 0 ≤ Int.tmod (IntKind.i64.wrap (IntKind.i64.wrap (v1 * 256) + v2)) m ∧ _
      rw [w1, w2]
      exact ⟨Int.tmod_nonneg _ (by omega), fun _ => Int.tmod_lt_of_pos _ (by omega), fun h3 => by omega⟩
    · rw [grd_pos (by omega)]
      exact ⟨_, _, rfl, ⟨Int.tmod_nonneg _ b1.1, fun _ => Int.tmod_lt_of_pos _ (by omega), fun h3 => by omega⟩, o1.le (by omega)⟩
theorem from_ok {code : List Int} (h : ∀ x ∈ code, 0 ≤ x ∧ x ≤ 255) (hl : code.length ≤ 1048576) : ∃ s, p_spec_l00From code = some s ∧ SrcOk 1099511627776 s :=
  ⟨_, rfl, h, hl, by show (0 : Int) ≤ 0; omega, by show (0 : Int) + 1099511627776 ≤ _; omega⟩

noncomputable def p_spec_l00Src_among (a_0 : List Int) (a_1 : Sl00Src) : Option (Int × Sl00Src) :=
  callK (p_spec_l00Src_pick (a_0.length : Int) a_1) fun y1 =>
  getK a_0 y1.1 fun x2 =>
  some (x2, y1.2)

set_option maxHeartbeats 4000000 in
theorem L_spec_l00Src_among (a_0 : List Int) (a_1 : Sl00Src) {r : (Int × Sl00Src)} (h : p_spec_l00Src_among a_0 a_1 = some r) : callL E 123 [.bp 0 0, .d (.arr (a_0.map rI))] ([some (.box [.d (.arr (a_1.Code.map rU)), IN a_1.At, .d (.lit (.int .u64 a_1.Seed))])] : Fo) = some (IN r.1, ([some (.box [.d (.arr (r.2.Code.map rU)), IN r.2.At, .d (.lit (.int .u64 r.2.Seed))])] : Fo)) := by
  unfold p_spec_l00Src_among at h
  refine callW (fu := Try.f123) rfl rfl rfl NN ?_
  intro lp cl hlp hcl
  conv => lhs; whnf
  try rw [len_of (l := a_0) (r := rI)]
  obtain ⟨y1, h_y1, h⟩ := callK_inv h
  rw [cl_eq hcl (L_spec_l00Src_pick (a_0.length : Int) a_1 h_y1)]
  rotate_left
  · show _ = _; kernel_rfl
  · show _ = _; kernel_rfl
  conv => lhs; whnf
  obtain ⟨x2, hq_x2, hx_x2', h⟩ := getK_inv h
  have hx_x2 := get_of (r := rI) hx_x2'
  try (rw [decide_eq_true hq_x2]; conv => lhs; whnf)
  rw [hx_x2]
  conv => lhs; whnf
  rw [hx_x2]
  conv => lhs; whnf
  obtain rfl := Option.some.inj h; show _ = _; kernel_rfl
theorem among_ok {b : Int} {s : Sl00Src} (l : List Int) (hl : 0 < l.length) (hb : 0 ≤ b) (h : SrcOk (b + 2) s) : ∃ r s', p_spec_l00Src_among l s = some (r, s') ∧ r ∈ l ∧ SrcOk b s' := by
  obtain ⟨r, s1, e1, ⟨b1, b2, b3⟩, o1⟩ := pick_ok (l.length : Int) hb h
  unfold p_spec_l00Src_among
  have hr : r < (l.length : Int) := by
    rcases Nat.lt_or_ge 1 l.length with h | h
    · exact b2 (by omega)
    · have := b3 (by omega); omega
  rw [e1, callK_some, getK_in b1 hr]
  exact ⟨_, _, rfl, List.getElem_mem _, o1⟩

noncomputable def p_spec_l00Src_one (a_0 : Int) (a_1 : Sl00Src) : Option (Bool × Sl00Src) :=
  callK (p_spec_l00Src_pick a_0 a_1) fun y1 =>
  some ((y1.1 == 0), y1.2)

set_option maxHeartbeats 4000000 in
theorem L_spec_l00Src_one (a_0 : Int) (a_1 : Sl00Src) {r : (Bool × Sl00Src)} (h : p_spec_l00Src_one a_0 a_1 = some r) : callL E 165 [.bp 0 0, IN a_0] ([some (.box [.d (.arr (a_1.Code.map rU)), IN a_1.At, .d (.lit (.int .u64 a_1.Seed))])] : Fo) = some (BO r.1, ([some (.box [.d (.arr (r.2.Code.map rU)), IN r.2.At, .d (.lit (.int .u64 r.2.Seed))])] : Fo)) := by
  unfold p_spec_l00Src_one at h
  refine callW (fu := Try.f165) rfl rfl rfl NN ?_
  intro lp cl hlp hcl
  conv => lhs; whnf
  obtain ⟨y1, h_y1, h⟩ := callK_inv h
  rw [cl_eq hcl (L_spec_l00Src_pick a_0 a_1 h_y1)]
  rotate_left
  · show _ = _; kernel_rfl
  · show _ = _; kernel_rfl
  conv => lhs; whnf
  obtain rfl := Option.some.inj h; show _ = _; kernel_rfl
theorem one_ok {b : Int} {s : Sl00Src} (m : Int) (hb : 0 ≤ b) (h : SrcOk (b + 2) s) : ∃ r s', p_spec_l00Src_one m s = some (r, s') ∧ SrcOk b s' := by
  obtain ⟨r, s1, e1, _, o1⟩ := pick_ok m hb h
  unfold p_spec_l00Src_one
  rw [e1, callK_some]
  exact ⟨_, _, rfl, o1⟩

noncomputable def p_spec_l00Src_among' (a_0 : Sl00Src) (a_1 : List Int) : Option (Int × Sl00Src) :=
  callK (p_spec_l00Src_pick (a_1.length : Int) a_0) fun y1 =>
  getK a_1 y1.1 fun x2 =>
  some (x2, y1.2)

set_option maxHeartbeats 4000000 in
theorem L_spec_l00Src_among' (a_0 : Sl00Src) (a_1 : List Int) {r : (Int × Sl00Src)} (h : p_spec_l00Src_among' a_0 a_1 = some r) : callL E 123 [.bp 0 0, .sl 1] ([some (.box [.d (.arr (a_0.Code.map rU)), IN a_0.At, .d (.lit (.int .u64 a_0.Seed))]), some (.arr 2 1 (a_1.map rI))] : Fo) = some (IN r.1, ([some (.box [.d (.arr (r.2.Code.map rU)), IN r.2.At, .d (.lit (.int .u64 r.2.Seed))]), some (.arr 2 1 (a_1.map rI))] : Fo)) := by
  unfold p_spec_l00Src_among' at h
  refine callW (fu := Try.f123) rfl rfl rfl NN ?_
  intro lp cl hlp hcl
  conv => lhs; whnf
  try rw [len_of (l := a_1) (r := rI)]
  obtain ⟨y1, h_y1, h⟩ := callK_inv h
  rw [cl_eq hcl (L_spec_l00Src_pick (a_1.length : Int) a_0 h_y1)]
  rotate_left
  · show _ = _; kernel_rfl
  · show _ = _; kernel_rfl
  conv => lhs; whnf
  obtain ⟨x2, hq_x2, hx_x2', h⟩ := getK_inv h
  have hx_x2 := get_of (r := rI) hx_x2'
  try (rw [decide_eq_true hq_x2]; conv => lhs; whnf)
  rw [hx_x2]
  conv => lhs; whnf
  rw [hx_x2]
  conv => lhs; whnf
  obtain rfl := Option.some.inj h; show _ = _; kernel_rfl

noncomputable def p_spec_l07Geo (a_0 : Sl00Src) : Option (Geometry × Sl00Src) :=
  callK (p_spec_l00Src_pick 2 a_0) fun y1 =>
  callK (p_spec_l00Src_pick 4 y1.2) fun y2 =>
  callK (p_spec_l00Src_one 20 y2.2) fun y3 =>
  if y3.1 = true then
    callK (p_spec_l00Src_among' y3.2 ([0, 12, 16] : List Int)) fun y5 =>
    some ((⟨(IntKind.i64.wrap (2 + y1.1)), (IntKind.i64.wrap (4 + y2.1)), y5.1⟩ : Geometry), y5.2)
  else
    some ((⟨(IntKind.i64.wrap (2 + y1.1)), (IntKind.i64.wrap (4 + y2.1)), 8⟩ : Geometry), y3.2)

set_option maxHeartbeats 4000000 in
theorem L_spec_l07Geo (a_0 : Sl00Src) {r : (Geometry × Sl00Src)} (h : p_spec_l07Geo a_0 = some r) : callL E 206 [.bp 0 0] ([some (.box [.d (.arr (a_0.Code.map rU)), IN a_0.At, .d (.lit (.int .u64 a_0.Seed))])] : Fo) = some (.agg [IN r.1.Dies, IN r.1.Blocks, IN r.1.Pages], ([some (.box [.d (.arr (r.2.Code.map rU)), IN r.2.At, .d (.lit (.int .u64 r.2.Seed))])] : Fo)) := by
  unfold p_spec_l07Geo at h
  refine callW (fu := Try.f206) rfl rfl rfl NN ?_
  intro lp cl hlp hcl
  conv => lhs; whnf
  obtain ⟨y1, h_y1, h⟩ := callK_inv h
  rw [cl_eq hcl (L_spec_l00Src_pick 2 a_0 h_y1)]
  rotate_left
  · show _ = _; kernel_rfl
  · show _ = _; kernel_rfl
  conv => lhs; whnf
  obtain ⟨y2, h_y2, h⟩ := callK_inv h
  rw [cl_eq hcl (L_spec_l00Src_pick 4 y1.2 h_y2)]
  rotate_left
  · show _ = _; kernel_rfl
  · show _ = _; kernel_rfl
  conv => lhs; whnf
  obtain ⟨y3, h_y3, h⟩ := callK_inv h
  rw [cl_eq hcl (L_spec_l00Src_one 20 y2.2 h_y3)]
  rotate_left
  · show _ = _; kernel_rfl
  · show _ = _; kernel_rfl
  conv => lhs; whnf
  cases hb4 : y3.1
  · replace h := ifF h (booF hb4); conv => lhs; whnf
    obtain rfl := Option.some.inj h; show _ = _; kernel_rfl
  · replace h := ifT h hb4; conv => lhs; whnf
    obtain ⟨y5, h_y5, h⟩ := callK_inv h
    rw [cl_eq hcl (L_spec_l00Src_among' y3.2 ([0, 12, 16] : List Int) h_y5)]
    rotate_left
    · show _ = _; kernel_rfl
    · show _ = _; kernel_rfl
    conv => lhs; whnf
    obtain rfl := Option.some.inj h; show _ = _; kernel_rfl

noncomputable def p_spec_l07Count (a_0 : Geometry) : Option Int :=
  some (IntKind.i64.wrap (a_0.Dies * a_0.Blocks))

set_option maxHeartbeats 4000000 in
theorem L_spec_l07Count (a_0 : Geometry) {r : Int} (h : p_spec_l07Count a_0 = some r) : callL E 114 [.agg [IN a_0.Dies, IN a_0.Blocks, IN a_0.Pages]] ([] : Fo) = some (IN r, ([] : Fo)) := by
  unfold p_spec_l07Count at h
  refine callW (fu := Try.f114) rfl rfl rfl NN ?_
  intro lp cl hlp hcl
  conv => lhs; whnf
  obtain rfl := Option.some.inj h; show _ = _; kernel_rfl

noncomputable def p_spec_ValidGeometry (a_0 : Geometry) : Option Bool :=
  if (inR a_0.Dies 2 3) = true then
    if (inR a_0.Blocks 4 12) = true then
      if a_0.Pages = 8 then
        some true
      else
        some (a_0.Pages == 16)
    else
      some false
  else
    some false

set_option maxHeartbeats 4000000 in
theorem L_spec_ValidGeometry (a_0 : Geometry) {r : Bool} (h : p_spec_ValidGeometry a_0 = some r) : callL E 168 [.agg [IN a_0.Dies, IN a_0.Blocks, IN a_0.Pages]] ([] : Fo) = some (BO r, ([] : Fo)) := by
  unfold p_spec_ValidGeometry at h
  refine callW (fu := Try.f168) rfl rfl rfl NN ?_
  intro lp cl hlp hcl
  conv => lhs; whnf
  rw [cl_eq hcl (L_spec_l00In a_0.Dies 2 3 (pl_l00In a_0.Dies 2 3))]
  rotate_left
  · show _ = _; kernel_rfl
  · show _ = _; kernel_rfl
  conv => lhs; whnf
  cases hb1 : (inR a_0.Dies 2 3)
  · replace h := ifF h (booF hb1); conv => lhs; whnf
    try (rw [hb1]; conv => lhs; whnf)
    try (rw [hb1]; conv => lhs; whnf)
    try (rw [hb1]; conv => lhs; whnf)
    obtain rfl := Option.some.inj h; show _ = _; kernel_rfl
  · replace h := ifT h hb1; conv => lhs; whnf
    try (rw [hb1]; conv => lhs; whnf)
    try (rw [hb1]; conv => lhs; whnf)
    rw [cl_eq hcl (L_spec_l00In a_0.Blocks 4 12 (pl_l00In a_0.Blocks 4 12))]
    rotate_left
    · show _ = _; kernel_rfl
    · show _ = _; kernel_rfl
    conv => lhs; whnf
    try (rw [hb1]; conv => lhs; whnf)
    cases hb2 : (inR a_0.Blocks 4 12)
    · replace h := ifF h (booF hb2); conv => lhs; whnf
      try (rw [hb2]; conv => lhs; whnf)
      try (rw [hb2]; conv => lhs; whnf)
      try (rw [hb2]; conv => lhs; whnf)
      try (rw [hb2]; conv => lhs; whnf)
      try (rw [hb2]; conv => lhs; whnf)
      obtain rfl := Option.some.inj h; show _ = _; kernel_rfl
    · replace h := ifT h hb2; conv => lhs; whnf
      try (rw [hb2]; conv => lhs; whnf)
      try (rw [hb2]; conv => lhs; whnf)
      try (rw [hb2]; conv => lhs; whnf)
      cases hb3 : (a_0.Pages == 8)
      · replace h := ifF h (beqF hb3); conv => lhs; whnf
        try (rw [hb3]; conv => lhs; whnf)
        try (rw [hb3]; conv => lhs; whnf)
        try (rw [hb2]; conv => lhs; whnf)
        try (rw [hb3]; conv => lhs; whnf)
        try (rw [hb2]; conv => lhs; whnf)
        obtain rfl := Option.some.inj h; show _ = _; kernel_rfl
      · replace h := ifT h (beqT hb3); conv => lhs; whnf
        try (rw [hb3]; conv => lhs; whnf)
        try (rw [hb3]; conv => lhs; whnf)
        try (rw [hb2]; conv => lhs; whnf)
        try (rw [hb3]; conv => lhs; whnf)
        try (rw [hb2]; conv => lhs; whnf)
        obtain rfl := Option.some.inj h; show _ = _; kernel_rfl

noncomputable def p_spec_l00Own (a_0 : List Int) : Option Unit :=
  grd (appOk (0 + a_0.length) 8 = true) <|
  some ()

set_option maxHeartbeats 4000000 in
theorem L_spec_l00Own (a_0 : List Int) {r : Unit} (h : p_spec_l00Own a_0 = some r) : callL E 183 [.sl 0] ([some (.arr 2 1 (a_0.map rI))] : Fo) = some (.sl 1, ([some (.arr 2 1 (a_0.map rI)), some (.arr 2 1 (a_0.map rI))] : Fo)) := by
  unfold p_spec_l00Own at h
  refine callW (fu := Try.f183) rfl rfl rfl NN ?_
  intro lp cl hlp hcl
  conv => lhs; whnf
  obtain ⟨hg1, h⟩ := grd_inv h
  rw [app_eq hg1 ?h1 ?h2]
  case h1 => first | exact rfl | (simp only [List.length_map, List.length_cons, List.length_nil]; done) | (rw [List.length_map]; rfl)
  case h2 => exact rfl
  conv => lhs; whnf
  rw [allLen_map rI _ rI_len]
  conv => lhs; whnf
  first | (rw [nil_app_of (r := rI) (m := a_0) ?hh]; case hh => exact rfl) | skip
  obtain rfl := Option.some.inj h; show _ = _; kernel_rfl

noncomputable def p_spec_l00Rises (a_0 : List Int) (a_1 : Int) (a_2 : Int) : Option Bool :=
  grd (a_0.length < 4611686018427387904) <|
  forK a_0 (fun (i8 : Nat) x10 (_ : Unit) (nx9 : Unit → Option _) =>
    if (inR x10 a_1 a_2) = true then
      if (i8 : Int) > 0 then
        getK a_0 (IntKind.i64.wrap ((i8 : Int) - 1)) fun x13 =>
        if x13 ≥ x10 then
          some false
        else
          nx9 ()
      else
        nx9 ()
    else
      some false) () (fun (_ : Unit) =>
    some true)

set_option maxHeartbeats 4000000 in
theorem L_spec_l00Rises (a_0 : List Int) (a_1 : Int) (a_2 : Int) {r : Bool} (h : p_spec_l00Rises a_0 a_1 a_2 = some r) : callL E 186 [.d (.arr (a_0.map rI)), IN a_1, IN a_2] ([] : Fo) = some (BO r, ([] : Fo)) := by
  unfold p_spec_l00Rises at h
  refine callW (fu := Try.f186) rfl rfl rfl NN ?_
  intro lp cl hlp hcl
  conv => lhs; whnf
  obtain ⟨hl_i8, h⟩ := grd_inv h
  refine loop_for hlp (l := a_0) hl_i8 (fun (i8 : Nat) (_ : Unit) => ([.d (.arr (a_0.map rI)), IN a_1, IN a_2, .dead, .dead, .dead, .dead, IN (i8 : Int)] ++ List.replicate 30 .dead : List V)) (fun (i8 : Nat) (_ : Unit) => ([] : Fo)) (fun (r : Bool) => ((BO r : V), ([] : Fo))) ?_ ?_ () _ (fun kk => by kernel_rfl) h
  · clear h
    rintro next_nx9 nx9 i8 hi_i8 hnx9 ⟨⟩ r h
    try dsimp only at h
    have hn_i8 : i8 < 4611686018427387904 := by omega
    have hx_x10 := get_map rI a_0 i8 hi_i8
    generalize a_0[i8] = x10 at h hx_x10
    have hd_i8 : (decide ((i8 : Int) < (a_0.length : Int))) = true := decide_eq_true (by omega)
    conv => lhs; whnf
    try rw [len_of (l := a_0) (r := rI)]
    rw [hd_i8]
    conv => lhs; whnf
    try (rw [decide_eq_true hq_x10]; conv => lhs; whnf)
    rw [hx_x10]
    conv => lhs; whnf
    rw [hx_x10]
    conv => lhs; whnf
    rw [cl_eq hcl (L_spec_l00In x10 a_1 a_2 (pl_l00In x10 a_1 a_2))]
    rotate_left
    · show _ = _; kernel_rfl
    · show _ = _; kernel_rfl
    conv => lhs; whnf
    cases hb11 : (inR x10 a_1 a_2)
    · replace h := ifF h (booF hb11); conv => lhs; whnf
      try (rw [hb11]; conv => lhs; whnf)
      try (rw [hb11]; conv => lhs; whnf)
      try (rw [hb11]; conv => lhs; whnf)
      try (rw [hb11]; conv => lhs; whnf)
      obtain rfl := Option.some.inj h; show _ = _; kernel_rfl
    · replace h := ifT h hb11; conv => lhs; whnf
      try (rw [hb11]; conv => lhs; whnf)
      try (rw [hb11]; conv => lhs; whnf)
      cases hb12 : (decide ((i8 : Int) > 0))
      · replace h := ifF h (decF hb12); conv => lhs; whnf
        try (rw [hb12]; conv => lhs; whnf)
        try (rw [hb12]; conv => lhs; whnf)
        try (rw [hb12]; conv => lhs; whnf)
        try (rw [hb12]; conv => lhs; whnf)
        try (rw [hb12]; conv => lhs; whnf)
        try (rw [hb12]; conv => lhs; whnf)
        try (rw [hb12]; conv => lhs; whnf)
        try (rw [hb12]; conv => lhs; whnf)
        try (rw [hb12]; conv => lhs; whnf)
        try (rw [hb11]; conv => lhs; whnf)
        try (rw [hb12]; conv => lhs; whnf)
        try (rw [hb11]; conv => lhs; whnf)
        rw [wrap_nat i8 (by have := hn_i8; omega)]
        exact hnx9 _ _ _ _ (fun kk => by kernel_rfl) h
      · replace h := ifT h (decT hb12); conv => lhs; whnf
        try (rw [hb12]; conv => lhs; whnf)
        try (rw [hb12]; conv => lhs; whnf)
        try (rw [hb12]; conv => lhs; whnf)
        obtain ⟨x13, hq_x13, hx_x13', h⟩ := getK_inv h
        have hx_x13 := get_of (r := rI) hx_x13'
        try (rw [decide_eq_true hq_x13]; conv => lhs; whnf)
        rw [hx_x13]
        conv => lhs; whnf
        try (rw [hb12]; conv => lhs; whnf)
        rw [hx_x13]
        conv => lhs; whnf
        try (rw [hb12]; conv => lhs; whnf)
        try (rw [hb12]; conv => lhs; whnf)
        try (rw [hb12]; conv => lhs; whnf)
        try (rw [decide_eq_true hq_x10]; conv => lhs; whnf)
        rw [hx_x10]
        conv => lhs; whnf
        try (rw [hb12]; conv => lhs; whnf)
        rw [hx_x10]
        conv => lhs; whnf
        try (rw [hb12]; conv => lhs; whnf)
        try (rw [hb11]; conv => lhs; whnf)
        try (rw [hb12]; conv => lhs; whnf)
        try (rw [hb11]; conv => lhs; whnf)
        cases hb14 : (decide (x13 ≥ x10))
        · replace h := ifF h (decF hb14); conv => lhs; whnf
          rw [wrap_nat i8 (by have := hn_i8; omega)]
          exact hnx9 _ _ _ _ (fun kk => by kernel_rfl) h
        · replace h := ifT h (decT hb14); conv => lhs; whnf
          obtain rfl := Option.some.inj h; show _ = _; kernel_rfl
  · clear h
    rintro next_nx9 ⟨⟩ r h
    try dsimp only at h
    have hd_i8 : (decide ((a_0.length : Int) < (a_0.length : Int))) = false := decide_eq_false (by omega)
    conv => lhs; whnf
    try rw [len_of (l := a_0) (r := rI)]
    rw [hd_i8]
    conv => lhs; whnf
    obtain rfl := Option.some.inj h; show _ = _; kernel_rfl

noncomputable def p_spec_l07Shape (a_0 : BadTable) : Option Bool :=
  callK (p_spec_ValidGeometry a_0.Geo) fun y1 =>
  if y1 = true then
    if (inR a_0.Spare 1 4) = true then
      if a_0.Spare < (IntKind.i64.wrap (a_0.Geo.Blocks - 1)) then
        callK (p_spec_l07Count a_0.Geo) fun y5 =>
        callK (p_spec_l00Rises a_0.Bad 0 (IntKind.i64.wrap (y5 - 1))) fun y6 =>
        some y6
      else
        some false
    else
      some false
  else
    some false

set_option maxHeartbeats 4000000 in
theorem L_spec_l07Shape (a_0 : BadTable) {r : Bool} (h : p_spec_l07Shape a_0 = some r) : callL E 217 [.agg [IN a_0.Geo.Dies, IN a_0.Geo.Blocks, IN a_0.Geo.Pages, IN a_0.Spare, .d (.arr (a_0.Bad.map rI)), .d (.arr (a_0.Remap.map rI))]] ([] : Fo) = some (BO r, ([] : Fo)) := by
  unfold p_spec_l07Shape at h
  refine callW (fu := Try.f217) rfl rfl rfl NN ?_
  intro lp cl hlp hcl
  conv => lhs; whnf
  obtain ⟨y1, h_y1, h⟩ := callK_inv h
  rw [cl_eq hcl (L_spec_ValidGeometry a_0.Geo h_y1)]
  rotate_left
  · show _ = _; kernel_rfl
  · show _ = _; kernel_rfl
  conv => lhs; whnf
  cases hb2 : y1
  · replace h := ifF h (booF hb2); conv => lhs; whnf
    try (rw [hb2]; conv => lhs; whnf)
    try (rw [hb2]; conv => lhs; whnf)
    try (rw [hb2]; conv => lhs; whnf)
    obtain rfl := Option.some.inj h; show _ = _; kernel_rfl
  · replace h := ifT h hb2; conv => lhs; whnf
    try (rw [hb2]; conv => lhs; whnf)
    try (rw [hb2]; conv => lhs; whnf)
    rw [cl_eq hcl (L_spec_l00In a_0.Spare 1 4 (pl_l00In a_0.Spare 1 4))]
    rotate_left
    · show _ = _; kernel_rfl
    · show _ = _; kernel_rfl
    conv => lhs; whnf
    try (rw [hb2]; conv => lhs; whnf)
    cases hb3 : (inR a_0.Spare 1 4)
    · replace h := ifF h (booF hb3); conv => lhs; whnf
      try (rw [hb3]; conv => lhs; whnf)
      try (rw [hb3]; conv => lhs; whnf)
      try (rw [hb3]; conv => lhs; whnf)
      try (rw [hb3]; conv => lhs; whnf)
      try (rw [hb3]; conv => lhs; whnf)
      try (rw [hb3]; conv => lhs; whnf)
      try (rw [hb3]; conv => lhs; whnf)
      obtain rfl := Option.some.inj h; show _ = _; kernel_rfl
    · replace h := ifT h hb3; conv => lhs; whnf
      try (rw [hb3]; conv => lhs; whnf)
      try (rw [hb3]; conv => lhs; whnf)
      try (rw [hb3]; conv => lhs; whnf)
      try (rw [hb3]; conv => lhs; whnf)
      try (rw [hb3]; conv => lhs; whnf)
      try (rw [hb3]; conv => lhs; whnf)
      try (rw [hb3]; conv => lhs; whnf)
      cases hb4 : (decide (a_0.Spare < (IntKind.i64.wrap (a_0.Geo.Blocks - 1))))
      · replace h := ifF h (decF hb4); conv => lhs; whnf
        try (rw [hb4]; conv => lhs; whnf)
        try (rw [hb4]; conv => lhs; whnf)
        try (rw [hb4]; conv => lhs; whnf)
        try (rw [hb4]; conv => lhs; whnf)
        try (rw [hb4]; conv => lhs; whnf)
        try (rw [hb4]; conv => lhs; whnf)
        try (rw [hb4]; conv => lhs; whnf)
        obtain rfl := Option.some.inj h; show _ = _; kernel_rfl
      · replace h := ifT h (decT hb4); conv => lhs; whnf
        try (rw [hb4]; conv => lhs; whnf)
        try (rw [hb4]; conv => lhs; whnf)
        try (rw [hb4]; conv => lhs; whnf)
        try (rw [hb4]; conv => lhs; whnf)
        obtain ⟨y5, h_y5, h⟩ := callK_inv h
        rw [cl_eq hcl (L_spec_l07Count a_0.Geo h_y5)]
        rotate_left
        · show _ = _; kernel_rfl
        · show _ = _; kernel_rfl
        conv => lhs; whnf
        try (rw [hb4]; conv => lhs; whnf)
        try (rw [hb4]; conv => lhs; whnf)
        obtain ⟨y6, h_y6, h⟩ := callK_inv h
        rw [cl_eq hcl (L_spec_l00Rises a_0.Bad 0 (IntKind.i64.wrap (y5 - 1)) h_y6)]
        rotate_left
        · show _ = _; kernel_rfl
        · show _ = _; kernel_rfl
        conv => lhs; whnf
        try (rw [hb4]; conv => lhs; whnf)
        obtain rfl := Option.some.inj h; show _ = _; kernel_rfl

noncomputable def p_spec_l07Home (a_0 : BadTable) (a_1 : Int) : Option Int :=
  grd ((IntKind.i64.wrap (a_0.Geo.Blocks - a_0.Spare)) ≠ 0) <|
  grd ((IntKind.i64.wrap (a_0.Geo.Blocks - a_0.Spare)) ≠ 0) <|
  some (IntKind.i64.wrap ((IntKind.i64.wrap ((IntKind.i64.wrap (Int.tdiv a_1 (IntKind.i64.wrap (a_0.Geo.Blocks - a_0.Spare)))) * a_0.Geo.Blocks)) + (Int.tmod a_1 (IntKind.i64.wrap (a_0.Geo.Blocks - a_0.Spare)))))

set_option maxHeartbeats 4000000 in
theorem L_spec_l07Home (a_0 : BadTable) (a_1 : Int) {r : Int} (h : p_spec_l07Home a_0 a_1 = some r) : callL E 218 [.agg [IN a_0.Geo.Dies, IN a_0.Geo.Blocks, IN a_0.Geo.Pages, IN a_0.Spare, .d (.arr (a_0.Bad.map rI)), .d (.arr (a_0.Remap.map rI))], IN a_1] ([] : Fo) = some (IN r, ([] : Fo)) := by
  unfold p_spec_l07Home at h
  refine callW (fu := Try.f218) rfl rfl rfl NN ?_
  intro lp cl hlp hcl
  conv => lhs; whnf
  obtain ⟨hg1, h⟩ := grd_inv h
  rw [quo_run _ _ _ _ hg1]
  conv => lhs; whnf
  obtain ⟨hg2, h⟩ := grd_inv h
  rw [rem_run _ _ _ _ hg2]
  conv => lhs; whnf
  obtain rfl := Option.some.inj h; show _ = _; kernel_rfl

noncomputable def p_spec_l00Has (a_0 : List Int) (a_1 : Int) : Option Bool :=
  grd (a_0.length < 4611686018427387904) <|
  forK a_0 (fun (i5 : Nat) x7 (_ : Unit) (nx6 : Unit → Option _) =>
    if x7 = a_1 then
      some true
    else
      nx6 ()) () (fun (_ : Unit) =>
    some false)

set_option maxHeartbeats 4000000 in
theorem L_spec_l00Has (a_0 : List Int) (a_1 : Int) {r : Bool} (h : p_spec_l00Has a_0 a_1 = some r) : callL E 115 [.d (.arr (a_0.map rI)), IN a_1] ([] : Fo) = some (BO r, ([] : Fo)) := by
  unfold p_spec_l00Has at h
  refine callW (fu := Try.f115) rfl rfl rfl NN ?_
  intro lp cl hlp hcl
  conv => lhs; whnf
  obtain ⟨hl_i5, h⟩ := grd_inv h
  refine loop_for hlp (l := a_0) hl_i5 (fun (i5 : Nat) (_ : Unit) => ([.d (.arr (a_0.map rI)), IN a_1, .dead, .dead, .dead, IN (i5 : Int)] ++ List.replicate 12 .dead : List V)) (fun (i5 : Nat) (_ : Unit) => ([] : Fo)) (fun (r : Bool) => ((BO r : V), ([] : Fo))) ?_ ?_ () _ (fun kk => by kernel_rfl) h
  · clear h
    rintro next_nx6 nx6 i5 hi_i5 hnx6 ⟨⟩ r h
    try dsimp only at h
    have hn_i5 : i5 < 4611686018427387904 := by omega
    have hx_x7 := get_map rI a_0 i5 hi_i5
    generalize a_0[i5] = x7 at h hx_x7
    have hd_i5 : (decide ((i5 : Int) < (a_0.length : Int))) = true := decide_eq_true (by omega)
    conv => lhs; whnf
    try rw [len_of (l := a_0) (r := rI)]
    rw [hd_i5]
    conv => lhs; whnf
    try (rw [decide_eq_true hq_x7]; conv => lhs; whnf)
    rw [hx_x7]
    conv => lhs; whnf
    rw [hx_x7]
    conv => lhs; whnf
    cases hb8 : (x7 == a_1)
    · replace h := ifF h (beqF hb8); conv => lhs; whnf
      rw [wrap_nat i5 (by have := hn_i5; omega)]
      exact hnx6 _ _ _ _ (fun kk => by kernel_rfl) h
    · replace h := ifT h (beqT hb8); conv => lhs; whnf
      obtain rfl := Option.some.inj h; show _ = _; kernel_rfl
  · clear h
    rintro next_nx6 ⟨⟩ r h
    try dsimp only at h
    have hd_i5 : (decide ((a_0.length : Int) < (a_0.length : Int))) = false := decide_eq_false (by omega)
    conv => lhs; whnf
    try rw [len_of (l := a_0) (r := rI)]
    rw [hd_i5]
    conv => lhs; whnf
    obtain rfl := Option.some.inj h; show _ = _; kernel_rfl

noncomputable def p_spec_l07Available (a_0 : Int) (a_1 : Int) (a_2 : Int) (a_3 : Int) (a_4 : Int) (a_5 : List Int) (a_6 : List Int) : Option (List Int) :=
  iterK (fun ((v1, v2) : (Int × (List Int))) (nx3 : (Int × (List Int)) → Option _) =>
    if v1 < (IntKind.i64.wrap ((IntKind.i64.wrap (a_4 + 1)) * a_1)) then
      callK (p_spec_l00Has a_5 v1) fun y5 =>
      if y5 = true then
        nx3 ((IntKind.i64.wrap (v1 + 1)), v2)
      else
        callK (p_spec_l00Has a_6 v1) fun y7 =>
        if y7 = true then
          nx3 ((IntKind.i64.wrap (v1 + 1)), v2)
        else
          grd (appOk (v2.length + 1) 8 = true) <|
          nx3 ((IntKind.i64.wrap (v1 + 1)), (v2 ++ ([v1] : List Int)))
    else
      some v2) NN ((IntKind.i64.wrap ((IntKind.i64.wrap ((IntKind.i64.wrap (a_4 + 1)) * a_1)) - a_3)), ([] : List Int))

set_option maxHeartbeats 4000000 in
theorem L_spec_l07Available (a_0 : Int) (a_1 : Int) (a_2 : Int) (a_3 : Int) (a_4 : Int) (a_5 : List Int) (a_6 : List Int) {r : (List Int)} (h : p_spec_l07Available a_0 a_1 a_2 a_3 a_4 a_5 a_6 = some r) : callL E 119 [.agg [IN a_0, IN a_1, IN a_2, IN a_3, .sl 0, .sl 1], IN a_4] ([some (.arr 2 1 (a_5.map rI)), some (.arr 2 1 (a_6.map rI))] : Fo) = some (.sl 2, ([some (.arr 2 1 (a_5.map rI)), some (.arr 2 1 (a_6.map rI)), some (.arr 2 1 (r.map rI))] : Fo)) := by
  unfold p_spec_l07Available at h
  refine callW (fu := Try.f119) rfl rfl rfl NN ?_
  intro lp cl hlp hcl
  conv => lhs; whnf
  refine loop_iter hlp (fun ((v1, v2) : (Int × (List Int))) => ([.dead, IN a_4, .bp 2 0, .dead, .dead, .sl 3, IN v1] ++ List.replicate 37 .dead : List V)) (fun ((v1, v2) : (Int × (List Int))) => ([some (.arr 2 1 (a_5.map rI)), some (.arr 2 1 (a_6.map rI)), some (.box [IN a_0, IN a_1, IN a_2, IN a_3, .sl 0, .sl 1]), some (.arr 2 1 (v2.map rI))] : Fo)) (fun (r : (List Int)) => ((.sl 2 : V), ([some (.arr 2 1 (a_5.map rI)), some (.arr 2 1 (a_6.map rI)), some (.arr 2 1 (r.map rI))] : Fo))) ?_ ((IntKind.i64.wrap ((IntKind.i64.wrap ((IntKind.i64.wrap (a_4 + 1)) * a_1)) - a_3)), ([] : List Int)) _ (fun kk => by kernel_rfl) h
  clear h
  rintro next_nx3 nx3 hnx3 ⟨v1, v2⟩ r h
  try dsimp only at h
  conv => lhs; whnf
  cases hb4 : (decide (v1 < (IntKind.i64.wrap ((IntKind.i64.wrap (a_4 + 1)) * a_1))))
  · replace h := ifF h (decF hb4); conv => lhs; whnf
    obtain rfl := Option.some.inj h; show _ = _; kernel_rfl
  · replace h := ifT h (decT hb4); conv => lhs; whnf
    obtain ⟨y5, h_y5, h⟩ := callK_inv h
    rw [cl_eq hcl (L_spec_l00Has a_5 v1 h_y5)]
    rotate_left
    · show _ = _; kernel_rfl
    · show _ = _; kernel_rfl
    conv => lhs; whnf
    cases hb6 : y5
    · replace h := ifF h (booF hb6); conv => lhs; whnf
      try (rw [hb6]; conv => lhs; whnf)
      try (rw [hb6]; conv => lhs; whnf)
      try (rw [hb6]; conv => lhs; whnf)
      obtain ⟨y7, h_y7, h⟩ := callK_inv h
      rw [cl_eq hcl (L_spec_l00Has a_6 v1 h_y7)]
      rotate_left
      · show _ = _; kernel_rfl
      · show _ = _; kernel_rfl
      conv => lhs; whnf
      try (rw [hb6]; conv => lhs; whnf)
      try (rw [hb6]; conv => lhs; whnf)
      cases hb8 : y7
      · replace h := ifF h (booF hb8); conv => lhs; whnf
        obtain ⟨hg9, h⟩ := grd_inv h
        rw [app_eq hg9 ?h1 ?h2]
        case h1 => first | exact rfl | (simp only [List.length_map, List.length_cons, List.length_nil]; done) | (rw [List.length_map]; rfl)
        case h2 => exact rfl
        conv => lhs; whnf
        first | (rw [map_app_of (r := rI) (l := v2) (m := ([v1] : List Int)) ?hh]; case hh => exact rfl) | skip
        exact hnx3 _ _ _ _ (fun kk => by kernel_rfl) h
      · replace h := ifT h hb8; conv => lhs; whnf
        exact hnx3 _ _ _ _ (fun kk => by kernel_rfl) h
    · replace h := ifT h hb6; conv => lhs; whnf
      try (rw [hb6]; conv => lhs; whnf)
      try (rw [hb6]; conv => lhs; whnf)
      try (rw [hb6]; conv => lhs; whnf)
      try (rw [hb6]; conv => lhs; whnf)
      try (rw [hb6]; conv => lhs; whnf)
      exact hnx3 _ _ _ _ (fun kk => by kernel_rfl) h

noncomputable def p_spec_NewBadTable (a_0 : Geometry) (a_1 : Int) (a_2 : List Int) : Option (Int × Int × Int × Int × Int × (List Int) × (List Int)) :=
  callK (p_spec_ValidGeometry a_0) fun y1 =>
  if y1 = true then
    callK (p_spec_l00Own a_2) fun y3 =>
    callK (p_spec_l07Shape (⟨a_0, a_1, a_2, ([] : List Int)⟩ : BadTable)) fun y4 =>
    if y4 = true then
      grd ((IntKind.i64.wrap (a_0.Dies * (IntKind.i64.wrap (a_0.Blocks - a_1)))) < 4611686018427387904) <|
      forI (IntKind.i64.wrap (a_0.Dies * (IntKind.i64.wrap (a_0.Blocks - a_1)))) (fun (i15 : Nat) (v16 : List Int) (nx17 : (List Int) → Option _) =>
        callK (p_spec_l07Home (⟨a_0, a_1, a_2, v16⟩ : BadTable) (i15 : Int)) fun y18 =>
        callK (p_spec_l00Has a_2 y18) fun y19 =>
        if y19 = true then
          grd (a_0.Blocks ≠ 0) <|
          callK (p_spec_l07Available a_0.Dies a_0.Blocks a_0.Pages a_1 (IntKind.i64.wrap (Int.tdiv y18 a_0.Blocks)) a_2 v16) fun y21 =>
          if (y21.length : Int) = 0 then
            some (0, 0, 0, 0, 4, ([] : List Int), ([] : List Int))
          else
            getK y21 0 fun x23 =>
            grd (appOk (v16.length + 1) 8 = true) <|
            nx17 (v16 ++ ([x23] : List Int))
        else
          grd (appOk (v16.length + 1) 8 = true) <|
          nx17 (v16 ++ ([y18] : List Int))) ([] : List Int) (fun (v16 : List Int) =>
        some (a_0.Dies, a_0.Blocks, a_0.Pages, a_1, 0, a_2, v16))
    else
      some (0, 0, 0, 0, 2, ([] : List Int), ([] : List Int))
  else
    some (0, 0, 0, 0, 1, ([] : List Int), ([] : List Int))

set_option maxHeartbeats 4000000 in
theorem L_spec_NewBadTable (a_0 : Geometry) (a_1 : Int) (a_2 : List Int) {r : (Int × Int × Int × Int × Int × (List Int) × (List Int))} (h : p_spec_NewBadTable a_0 a_1 a_2 = some r) : callL E 166 [.agg [IN a_0.Dies, IN a_0.Blocks, IN a_0.Pages], IN a_1, .sl 0] ([some (.arr 2 1 (a_2.map rI))] : Fo) = some (.tup [.agg [IN r.1, IN r.2.1, IN r.2.2.1, IN r.2.2.2.1, .sl 1, .sl 2], IN r.2.2.2.2.1], ([some (.arr 2 1 (a_2.map rI)), some (.arr 2 1 (r.2.2.2.2.2.1.map rI)), some (.arr 2 1 (r.2.2.2.2.2.2.map rI))] : Fo)) := by
  unfold p_spec_NewBadTable at h
  refine callW (fu := Try.f166) rfl rfl rfl NN ?_
  intro lp cl hlp hcl
  conv => lhs; whnf
  obtain ⟨y1, h_y1, h⟩ := callK_inv h
  rw [cl_eq hcl (L_spec_ValidGeometry a_0 h_y1)]
  rotate_left
  · show _ = _; kernel_rfl
  · show _ = _; kernel_rfl
  conv => lhs; whnf
  cases hb2 : y1
  · replace h := ifF h (booF hb2); conv => lhs; whnf
    obtain rfl := Option.some.inj h; show _ = _; kernel_rfl
  · replace h := ifT h hb2
    try rw [hb2] at h
    conv => lhs; whnf
    obtain ⟨y3, h_y3, h⟩ := callK_inv h
    rw [cl_eq hcl (L_spec_l00Own a_2 h_y3)]
    rotate_left
    · show _ = _; kernel_rfl
    · show _ = _; kernel_rfl
    conv => lhs; whnf
    obtain ⟨y4, h_y4, h⟩ := callK_inv h
    rw [cl_eq hcl (L_spec_l07Shape (⟨a_0, a_1, a_2, ([] : List Int)⟩ : BadTable) h_y4)]
    rotate_left
    · show _ = _; kernel_rfl
    · show _ = _; kernel_rfl
    conv => lhs; whnf
    cases hb5 : y4
    · replace h := ifF h (booF hb5); conv => lhs; whnf
      obtain rfl := Option.some.inj h; show _ = _; kernel_rfl
    · replace h := ifT h hb5; conv => lhs; whnf
      obtain ⟨hl_i15, h⟩ := grd_inv h
      refine loop_forI hlp (n := (IntKind.i64.wrap (a_0.Dies * (IntKind.i64.wrap (a_0.Blocks - a_1))))) hl_i15 (fun (i15 : Nat) (v16 : List Int) => ([.dead, IN a_1, .dead, .bp 1 0, .dead, .dead, .bp 2 0, .dead, .bp 3 0, IN (i15 : Int)] ++ List.replicate 53 .dead : List V)) (fun (i15 : Nat) (v16 : List Int) => ([some (.arr 2 1 (a_2.map rI)), some (.box [IN a_0.Dies, IN a_0.Blocks, IN a_0.Pages]), some (.box [IN 0, IN 0, IN 0, IN 0, .d (.arr (([] : List Int).map rI)), .d (.arr (([] : List Int).map rI))]), some (.box [IN a_0.Dies, IN a_0.Blocks, IN a_0.Pages, IN a_1, .sl 4, .sl 5]), some (.arr 2 1 (a_2.map rI)), some (.arr 2 1 (v16.map rI))] : Fo)) (fun (r : (Int × Int × Int × Int × Int × (List Int) × (List Int))) => ((.tup [.agg [IN r.1, IN r.2.1, IN r.2.2.1, IN r.2.2.2.1, .sl 1, .sl 2], IN r.2.2.2.2.1] : V), ([some (.arr 2 1 (a_2.map rI)), some (.arr 2 1 (r.2.2.2.2.2.1.map rI)), some (.arr 2 1 (r.2.2.2.2.2.2.map rI))] : Fo))) ?_ ?_ ([] : List Int) _ (fun kk => by kernel_rfl) h
      · clear h
        rintro next_nx17 nx17 i15 hi_i15 hnx17 v16 r h
        try dsimp only at h
        have hn_i15 : i15 < 4611686018427387904 := by omega
        have hd_i15 : (decide ((i15 : Int) < (IntKind.i64.wrap (a_0.Dies * (IntKind.i64.wrap (a_0.Blocks - a_1)))))) = true := decide_eq_true (by omega)
        conv => lhs; whnf
        rw [hd_i15]
        conv => lhs; whnf
        obtain ⟨y18, h_y18, h⟩ := callK_inv h
        rw [cl_eq hcl (L_spec_l07Home (⟨a_0, a_1, a_2, v16⟩ : BadTable) (i15 : Int) h_y18)]
        rotate_left
        · show _ = _; kernel_rfl
        · show _ = _; kernel_rfl
        conv => lhs; whnf
        obtain ⟨y19, h_y19, h⟩ := callK_inv h
        rw [cl_eq hcl (L_spec_l00Has a_2 y18 h_y19)]
        rotate_left
        · show _ = _; kernel_rfl
        · show _ = _; kernel_rfl
        conv => lhs; whnf
        cases hb20 : y19
        · replace h := ifF h (booF hb20); conv => lhs; whnf
          obtain ⟨hg24, h⟩ := grd_inv h
          rw [app_eq hg24 ?h1 ?h2]
          case h1 => first | exact rfl | (simp only [List.length_map, List.length_cons, List.length_nil]; done) | (rw [List.length_map]; rfl)
          case h2 => exact rfl
          conv => lhs; whnf
          first | (rw [map_app_of (r := rI) (l := v16) (m := ([y18] : List Int)) ?hh]; case hh => exact rfl) | skip
          rw [wrap_nat i15 (by have := hn_i15; omega)]
          exact hnx17 _ _ _ _ (fun kk => by kernel_rfl) h
        · replace h := ifT h hb20; conv => lhs; whnf
          obtain ⟨hg25, h⟩ := grd_inv h
          rw [quo_run _ _ _ _ hg25]
          conv => lhs; whnf
          obtain ⟨y21, h_y21, h⟩ := callK_inv h
          rw [cl_eq hcl (L_spec_l07Available a_0.Dies a_0.Blocks a_0.Pages a_1 (IntKind.i64.wrap (Int.tdiv y18 a_0.Blocks)) a_2 v16 h_y21)]
          rotate_left
          · show _ = _; kernel_rfl
          · show _ = _; kernel_rfl
          conv => lhs; whnf
          try rw [len_of (l := y21) (r := rI)]
          cases hb22 : ((y21.length : Int) == 0)
          · replace h := ifF h (beqF hb22); conv => lhs; whnf
            obtain ⟨x23, hq_x23, hx_x23', h⟩ := getK_inv h
            have hx_x23 := get_of (r := rI) hx_x23'
            try (rw [decide_eq_true hq_x23]; conv => lhs; whnf)
            rw [hx_x23]
            conv => lhs; whnf
            rw [hx_x23]
            conv => lhs; whnf
            obtain ⟨hg26, h⟩ := grd_inv h
            rw [app_eq hg26 ?h1 ?h2]
            case h1 => first | exact rfl | (simp only [List.length_map, List.length_cons, List.length_nil]; done) | (rw [List.length_map]; rfl)
            case h2 => exact rfl
            conv => lhs; whnf
            first | (rw [map_app_of (r := rI) (l := v16) (m := ([x23] : List Int)) ?hh]; case hh => exact rfl) | skip
            rw [wrap_nat i15 (by have := hn_i15; omega)]
            exact hnx17 _ _ _ _ (fun kk => by kernel_rfl) h
          · replace h := ifT h (beqT hb22); conv => lhs; whnf
            obtain rfl := Option.some.inj h; show _ = _; kernel_rfl
      · clear h
        rintro next_nx17 v16 r h
        try dsimp only at h
        have hd_i15 : (decide (((Int.toNat (IntKind.i64.wrap (a_0.Dies * (IntKind.i64.wrap (a_0.Blocks - a_1))))) : Int) < (IntKind.i64.wrap (a_0.Dies * (IntKind.i64.wrap (a_0.Blocks - a_1)))))) = false := decide_eq_false (by omega)
        conv => lhs; whnf
        rw [hd_i15]
        conv => lhs; whnf
        obtain rfl := Option.some.inj h; show _ = _; kernel_rfl

noncomputable def p_spec_l00Own' (a_0 : List Int) : Option Unit :=
  grd (appOk (0 + a_0.length) 8 = true) <|
  some ()

set_option maxHeartbeats 4000000 in
theorem L_spec_l00Own' (a_0 : List Int) {r : Unit} (h : p_spec_l00Own' a_0 = some r) : callL E 183 [.d (.arr (a_0.map rI))] ([] : Fo) = some (.sl 0, ([some (.arr 2 1 (a_0.map rI))] : Fo)) := by
  unfold p_spec_l00Own' at h
  refine callW (fu := Try.f183) rfl rfl rfl NN ?_
  intro lp cl hlp hcl
  conv => lhs; whnf
  obtain ⟨hg1, h⟩ := grd_inv h
  rw [app_eq hg1 ?h1 ?h2]
  case h1 => first | exact rfl | (simp only [List.length_map, List.length_cons, List.length_nil]; done) | (rw [List.length_map]; rfl)
  case h2 => exact rfl
  conv => lhs; whnf
  rw [allLen_map rI _ rI_len]
  conv => lhs; whnf
  first | (rw [nil_app_of (r := rI) (m := a_0) ?hh]; case hh => exact rfl) | skip
  obtain rfl := Option.some.inj h; show _ = _; kernel_rfl

noncomputable def p_spec_NewBadTable' (a_0 : Geometry) (a_1 : Int) (a_2 : List Int) : Option (Int × Int × Int × Int × Int × (List Int) × (List Int)) :=
  callK (p_spec_ValidGeometry a_0) fun y1 =>
  if y1 = true then
    callK (p_spec_l00Own' a_2) fun y3 =>
    callK (p_spec_l07Shape (⟨a_0, a_1, a_2, ([] : List Int)⟩ : BadTable)) fun y4 =>
    if y4 = true then
      grd ((IntKind.i64.wrap (a_0.Dies * (IntKind.i64.wrap (a_0.Blocks - a_1)))) < 4611686018427387904) <|
      forI (IntKind.i64.wrap (a_0.Dies * (IntKind.i64.wrap (a_0.Blocks - a_1)))) (fun (i15 : Nat) (v16 : List Int) (nx17 : (List Int) → Option _) =>
        callK (p_spec_l07Home (⟨a_0, a_1, a_2, v16⟩ : BadTable) (i15 : Int)) fun y18 =>
        callK (p_spec_l00Has a_2 y18) fun y19 =>
        if y19 = true then
          grd (a_0.Blocks ≠ 0) <|
          callK (p_spec_l07Available a_0.Dies a_0.Blocks a_0.Pages a_1 (IntKind.i64.wrap (Int.tdiv y18 a_0.Blocks)) a_2 v16) fun y21 =>
          if (y21.length : Int) = 0 then
            some (0, 0, 0, 0, 4, ([] : List Int), ([] : List Int))
          else
            getK y21 0 fun x23 =>
            grd (appOk (v16.length + 1) 8 = true) <|
            nx17 (v16 ++ ([x23] : List Int))
        else
          grd (appOk (v16.length + 1) 8 = true) <|
          nx17 (v16 ++ ([y18] : List Int))) ([] : List Int) (fun (v16 : List Int) =>
        some (a_0.Dies, a_0.Blocks, a_0.Pages, a_1, 0, a_2, v16))
    else
      some (0, 0, 0, 0, 2, ([] : List Int), ([] : List Int))
  else
    some (0, 0, 0, 0, 1, ([] : List Int), ([] : List Int))

set_option maxHeartbeats 4000000 in
theorem L_spec_NewBadTable' (a_0 : Geometry) (a_1 : Int) (a_2 : List Int) {r : (Int × Int × Int × Int × Int × (List Int) × (List Int))} (h : p_spec_NewBadTable' a_0 a_1 a_2 = some r) : callL E 166 [.agg [IN a_0.Dies, IN a_0.Blocks, IN a_0.Pages], IN a_1, .d (.arr (a_2.map rI))] ([] : Fo) = some (.tup [.agg [IN r.1, IN r.2.1, IN r.2.2.1, IN r.2.2.2.1, .sl 0, .sl 1], IN r.2.2.2.2.1], ([some (.arr 2 1 (r.2.2.2.2.2.1.map rI)), some (.arr 2 1 (r.2.2.2.2.2.2.map rI))] : Fo)) := by
  unfold p_spec_NewBadTable' at h
  refine callW (fu := Try.f166) rfl rfl rfl NN ?_
  intro lp cl hlp hcl
  conv => lhs; whnf
  obtain ⟨y1, h_y1, h⟩ := callK_inv h
  rw [cl_eq hcl (L_spec_ValidGeometry a_0 h_y1)]
  rotate_left
  · show _ = _; kernel_rfl
  · show _ = _; kernel_rfl
  conv => lhs; whnf
  cases hb2 : y1
  · replace h := ifF h (booF hb2); conv => lhs; whnf
    obtain rfl := Option.some.inj h; show _ = _; kernel_rfl
  · replace h := ifT h hb2
    try rw [hb2] at h
    conv => lhs; whnf
    obtain ⟨y3, h_y3, h⟩ := callK_inv h
    rw [cl_eq hcl (L_spec_l00Own' a_2 h_y3)]
    rotate_left
    · show _ = _; kernel_rfl
    · show _ = _; kernel_rfl
    conv => lhs; whnf
    obtain ⟨y4, h_y4, h⟩ := callK_inv h
    rw [cl_eq hcl (L_spec_l07Shape (⟨a_0, a_1, a_2, ([] : List Int)⟩ : BadTable) h_y4)]
    rotate_left
    · show _ = _; kernel_rfl
    · show _ = _; kernel_rfl
    conv => lhs; whnf
    cases hb5 : y4
    · replace h := ifF h (booF hb5); conv => lhs; whnf
      obtain rfl := Option.some.inj h; show _ = _; kernel_rfl
    · replace h := ifT h hb5; conv => lhs; whnf
      obtain ⟨hl_i15, h⟩ := grd_inv h
      refine loop_forI hlp (n := (IntKind.i64.wrap (a_0.Dies * (IntKind.i64.wrap (a_0.Blocks - a_1))))) hl_i15 (fun (i15 : Nat) (v16 : List Int) => ([.dead, IN a_1, .dead, .bp 0 0, .dead, .dead, .bp 1 0, .dead, .bp 2 0, IN (i15 : Int)] ++ List.replicate 53 .dead : List V)) (fun (i15 : Nat) (v16 : List Int) => ([some (.box [IN a_0.Dies, IN a_0.Blocks, IN a_0.Pages]), some (.box [IN 0, IN 0, IN 0, IN 0, .d (.arr (([] : List Int).map rI)), .d (.arr (([] : List Int).map rI))]), some (.box [IN a_0.Dies, IN a_0.Blocks, IN a_0.Pages, IN a_1, .sl 3, .sl 4]), some (.arr 2 1 (a_2.map rI)), some (.arr 2 1 (v16.map rI))] : Fo)) (fun (r : (Int × Int × Int × Int × Int × (List Int) × (List Int))) => ((.tup [.agg [IN r.1, IN r.2.1, IN r.2.2.1, IN r.2.2.2.1, .sl 0, .sl 1], IN r.2.2.2.2.1] : V), ([some (.arr 2 1 (r.2.2.2.2.2.1.map rI)), some (.arr 2 1 (r.2.2.2.2.2.2.map rI))] : Fo))) ?_ ?_ ([] : List Int) _ (fun kk => by kernel_rfl) h
      · clear h
        rintro next_nx17 nx17 i15 hi_i15 hnx17 v16 r h
        try dsimp only at h
        have hn_i15 : i15 < 4611686018427387904 := by omega
        have hd_i15 : (decide ((i15 : Int) < (IntKind.i64.wrap (a_0.Dies * (IntKind.i64.wrap (a_0.Blocks - a_1)))))) = true := decide_eq_true (by omega)
        conv => lhs; whnf
        rw [hd_i15]
        conv => lhs; whnf
        obtain ⟨y18, h_y18, h⟩ := callK_inv h
        rw [cl_eq hcl (L_spec_l07Home (⟨a_0, a_1, a_2, v16⟩ : BadTable) (i15 : Int) h_y18)]
        rotate_left
        · show _ = _; kernel_rfl
        · show _ = _; kernel_rfl
        conv => lhs; whnf
        obtain ⟨y19, h_y19, h⟩ := callK_inv h
        rw [cl_eq hcl (L_spec_l00Has a_2 y18 h_y19)]
        rotate_left
        · show _ = _; kernel_rfl
        · show _ = _; kernel_rfl
        conv => lhs; whnf
        cases hb20 : y19
        · replace h := ifF h (booF hb20); conv => lhs; whnf
          obtain ⟨hg24, h⟩ := grd_inv h
          rw [app_eq hg24 ?h1 ?h2]
          case h1 => first | exact rfl | (simp only [List.length_map, List.length_cons, List.length_nil]; done) | (rw [List.length_map]; rfl)
          case h2 => exact rfl
          conv => lhs; whnf
          first | (rw [map_app_of (r := rI) (l := v16) (m := ([y18] : List Int)) ?hh]; case hh => exact rfl) | skip
          rw [wrap_nat i15 (by have := hn_i15; omega)]
          exact hnx17 _ _ _ _ (fun kk => by kernel_rfl) h
        · replace h := ifT h hb20; conv => lhs; whnf
          obtain ⟨hg25, h⟩ := grd_inv h
          rw [quo_run _ _ _ _ hg25]
          conv => lhs; whnf
          obtain ⟨y21, h_y21, h⟩ := callK_inv h
          rw [cl_eq hcl (L_spec_l07Available a_0.Dies a_0.Blocks a_0.Pages a_1 (IntKind.i64.wrap (Int.tdiv y18 a_0.Blocks)) a_2 v16 h_y21)]
          rotate_left
          · show _ = _; kernel_rfl
          · show _ = _; kernel_rfl
          conv => lhs; whnf
          try rw [len_of (l := y21) (r := rI)]
          cases hb22 : ((y21.length : Int) == 0)
          · replace h := ifF h (beqF hb22); conv => lhs; whnf
            obtain ⟨x23, hq_x23, hx_x23', h⟩ := getK_inv h
            have hx_x23 := get_of (r := rI) hx_x23'
            try (rw [decide_eq_true hq_x23]; conv => lhs; whnf)
            rw [hx_x23]
            conv => lhs; whnf
            rw [hx_x23]
            conv => lhs; whnf
            obtain ⟨hg26, h⟩ := grd_inv h
            rw [app_eq hg26 ?h1 ?h2]
            case h1 => first | exact rfl | (simp only [List.length_map, List.length_cons, List.length_nil]; done) | (rw [List.length_map]; rfl)
            case h2 => exact rfl
            conv => lhs; whnf
            first | (rw [map_app_of (r := rI) (l := v16) (m := ([x23] : List Int)) ?hh]; case hh => exact rfl) | skip
            rw [wrap_nat i15 (by have := hn_i15; omega)]
            exact hnx17 _ _ _ _ (fun kk => by kernel_rfl) h
          · replace h := ifT h (beqT hb22); conv => lhs; whnf
            obtain rfl := Option.some.inj h; show _ = _; kernel_rfl
      · clear h
        rintro next_nx17 v16 r h
        try dsimp only at h
        have hd_i15 : (decide (((Int.toNat (IntKind.i64.wrap (a_0.Dies * (IntKind.i64.wrap (a_0.Blocks - a_1))))) : Int) < (IntKind.i64.wrap (a_0.Dies * (IntKind.i64.wrap (a_0.Blocks - a_1)))))) = false := decide_eq_false (by omega)
        conv => lhs; whnf
        rw [hd_i15]
        conv => lhs; whnf
        obtain rfl := Option.some.inj h; show _ = _; kernel_rfl

noncomputable def p_spec_l07SpareOf (a_0 : BadTable) (a_1 : Int) (a_2 : Int) : Option Bool :=
  some (inR a_2 (IntKind.i64.wrap ((IntKind.i64.wrap ((IntKind.i64.wrap (a_1 + 1)) * a_0.Geo.Blocks)) - a_0.Spare)) (IntKind.i64.wrap ((IntKind.i64.wrap ((IntKind.i64.wrap (a_1 + 1)) * a_0.Geo.Blocks)) - 1)))

set_option maxHeartbeats 4000000 in
theorem L_spec_l07SpareOf (a_0 : BadTable) (a_1 : Int) (a_2 : Int) {r : Bool} (h : p_spec_l07SpareOf a_0 a_1 a_2 = some r) : callL E 219 [.agg [IN a_0.Geo.Dies, IN a_0.Geo.Blocks, IN a_0.Geo.Pages, IN a_0.Spare, .d (.arr (a_0.Bad.map rI)), .d (.arr (a_0.Remap.map rI))], IN a_1, IN a_2] ([] : Fo) = some (BO r, ([] : Fo)) := by
  unfold p_spec_l07SpareOf at h
  refine callW (fu := Try.f219) rfl rfl rfl NN ?_
  intro lp cl hlp hcl
  conv => lhs; whnf
  rw [cl_eq hcl (L_spec_l00In a_2 (IntKind.i64.wrap ((IntKind.i64.wrap ((IntKind.i64.wrap (a_1 + 1)) * a_0.Geo.Blocks)) - a_0.Spare)) (IntKind.i64.wrap ((IntKind.i64.wrap ((IntKind.i64.wrap (a_1 + 1)) * a_0.Geo.Blocks)) - 1)) (pl_l00In a_2 (IntKind.i64.wrap ((IntKind.i64.wrap ((IntKind.i64.wrap (a_1 + 1)) * a_0.Geo.Blocks)) - a_0.Spare)) (IntKind.i64.wrap ((IntKind.i64.wrap ((IntKind.i64.wrap (a_1 + 1)) * a_0.Geo.Blocks)) - 1))))]
  rotate_left
  · show _ = _; kernel_rfl
  · show _ = _; kernel_rfl
  conv => lhs; whnf
  obtain rfl := Option.some.inj h; show _ = _; kernel_rfl

noncomputable def p_spec_ValidBadTable (a_0 : BadTable) : Option Bool :=
  callK (p_spec_l07Shape a_0) fun y1 =>
  if y1 = true then
    if ¬ (a_0.Remap.length : Int) = (IntKind.i64.wrap (a_0.Geo.Dies * (IntKind.i64.wrap (a_0.Geo.Blocks - a_0.Spare)))) then
      some false
    else
      grd (a_0.Remap.length < 4611686018427387904) <|
      forK a_0.Remap (fun (i17 : Nat) x19 (_ : Unit) (nx18 : Unit → Option _) =>
        callK (p_spec_l07Home a_0 (i17 : Int)) fun y20 =>
        callK (p_spec_l00Has a_0.Bad x19) fun y21 =>
        if y21 = true then
          some false
        else
          grd (0 ≤ 0 ∧ 0 ≤ (i17 : Int) ∧ (i17 : Int) ≤ (a_0.Remap.length : Int)) <|
          callK (p_spec_l00Has ((a_0.Remap.drop (Int.toNat 0)).take (Int.toNat (i17 : Int) - Int.toNat 0)) x19) fun y23 =>
          if y23 = true then
            some false
          else
            if ¬ x19 = y20 then
              grd (a_0.Geo.Blocks ≠ 0) <|
              callK (p_spec_l07SpareOf a_0 (IntKind.i64.wrap (Int.tdiv y20 a_0.Geo.Blocks)) x19) fun y26 =>
              if y26 = true then
                callK (p_spec_l00Has a_0.Bad y20) fun y28 =>
                if y28 = true then
                  nx18 ()
                else
                  some false
              else
                some false
            else
              nx18 ()) () (fun (_ : Unit) =>
        some true)
  else
    some false

set_option maxHeartbeats 4000000 in
theorem L_spec_ValidBadTable (a_0 : BadTable) {r : Bool} (h : p_spec_ValidBadTable a_0 = some r) : callL E 112 [.agg [IN a_0.Geo.Dies, IN a_0.Geo.Blocks, IN a_0.Geo.Pages, IN a_0.Spare, .d (.arr (a_0.Bad.map rI)), .d (.arr (a_0.Remap.map rI))]] ([] : Fo) = some (BO r, ([] : Fo)) := by
  unfold p_spec_ValidBadTable at h
  refine callW (fu := Try.f112) rfl rfl rfl NN ?_
  intro lp cl hlp hcl
  conv => lhs; whnf
  obtain ⟨y1, h_y1, h⟩ := callK_inv h
  rw [cl_eq hcl (L_spec_l07Shape a_0 h_y1)]
  rotate_left
  · show _ = _; kernel_rfl
  · show _ = _; kernel_rfl
  conv => lhs; whnf
  cases hb2 : y1
  · replace h := ifF h (booF hb2); conv => lhs; whnf
    try (rw [hb2]; conv => lhs; whnf)
    try (rw [hb2]; conv => lhs; whnf)
    try (rw [hb2]; conv => lhs; whnf)
    try (rw [hb2]; conv => lhs; whnf)
    try (rw [hb2]; conv => lhs; whnf)
    try (rw [hb2]; conv => lhs; whnf)
    try (rw [hb2]; conv => lhs; whnf)
    try (rw [hb2]; conv => lhs; whnf)
    try (rw [hb2]; conv => lhs; whnf)
    try (rw [hb2]; conv => lhs; whnf)
    try (rw [hb2]; conv => lhs; whnf)
    try (rw [hb2]; conv => lhs; whnf)
    try (rw [hb2]; conv => lhs; whnf)
    try (rw [hb2]; conv => lhs; whnf)
    obtain rfl := Option.some.inj h; show _ = _; kernel_rfl
  · replace h := ifT h hb2; conv => lhs; whnf
    try (rw [hb2]; conv => lhs; whnf)
    try (rw [hb2]; conv => lhs; whnf)
    try rw [len_of (l := a_0.Remap) (r := rI)]
    try (rw [hb2]; conv => lhs; whnf)
    try (rw [hb2]; conv => lhs; whnf)
    try (rw [hb2]; conv => lhs; whnf)
    try (rw [hb2]; conv => lhs; whnf)
    try (rw [hb2]; conv => lhs; whnf)
    try (rw [hb2]; conv => lhs; whnf)
    try (rw [hb2]; conv => lhs; whnf)
    try (rw [hb2]; conv => lhs; whnf)
    try (rw [hb2]; conv => lhs; whnf)
    try (rw [hb2]; conv => lhs; whnf)
    try (rw [hb2]; conv => lhs; whnf)
    try (rw [hb2]; conv => lhs; whnf)
    cases hb3 : ((a_0.Remap.length : Int) != (IntKind.i64.wrap (a_0.Geo.Dies * (IntKind.i64.wrap (a_0.Geo.Blocks - a_0.Spare)))))
    · replace h := ifF h ((fun h => not_not_intro (bneF h)) hb3); conv => lhs; whnf
      obtain ⟨hl_i17, h⟩ := grd_inv h
      refine loop_for hlp (l := a_0.Remap) hl_i17 (fun (i17 : Nat) (_ : Unit) => ([.dead, .bp 0 0, .dead, IN (i17 : Int)] ++ List.replicate 68 .dead : List V)) (fun (i17 : Nat) (_ : Unit) => ([some (.box [IN a_0.Geo.Dies, IN a_0.Geo.Blocks, IN a_0.Geo.Pages, IN a_0.Spare, .d (.arr (a_0.Bad.map rI)), .d (.arr (a_0.Remap.map rI))])] : Fo)) (fun (r : Bool) => ((BO r : V), ([] : Fo))) ?_ ?_ () _ (fun kk => by kernel_rfl) h
      · clear h
        rintro next_nx18 nx18 i17 hi_i17 hnx18 ⟨⟩ r h
        try dsimp only at h
        have hn_i17 : i17 < 4611686018427387904 := by omega
        have hx_x19 := get_map rI a_0.Remap i17 hi_i17
        generalize a_0.Remap[i17] = x19 at h hx_x19
        have hd_i17 : (decide ((i17 : Int) < (a_0.Remap.length : Int))) = true := decide_eq_true (by omega)
        conv => lhs; whnf
        try rw [len_of (l := a_0.Remap) (r := rI)]
        rw [hd_i17]
        conv => lhs; whnf
        obtain ⟨y20, h_y20, h⟩ := callK_inv h
        rw [cl_eq hcl (L_spec_l07Home a_0 (i17 : Int) h_y20)]
        rotate_left
        · show _ = _; kernel_rfl
        · show _ = _; kernel_rfl
        conv => lhs; whnf
        try (rw [decide_eq_true hq_x19]; conv => lhs; whnf)
        rw [hx_x19]
        conv => lhs; whnf
        rw [hx_x19]
        conv => lhs; whnf
        obtain ⟨y21, h_y21, h⟩ := callK_inv h
        rw [cl_eq hcl (L_spec_l00Has a_0.Bad x19 h_y21)]
        rotate_left
        · show _ = _; kernel_rfl
        · show _ = _; kernel_rfl
        conv => lhs; whnf
        cases hb22 : y21
        · replace h := ifF h (booF hb22); conv => lhs; whnf
          try (rw [hb22]; conv => lhs; whnf)
          try (rw [hb22]; conv => lhs; whnf)
          try (rw [hb22]; conv => lhs; whnf)
          obtain ⟨hg30, h⟩ := grd_inv h
          try (rw [allLen_map rI _ rI_len]; conv => lhs; whnf)
          try rw [List.length_map]
          try (rw [decide_eq_true hg30.1]; conv => lhs; whnf)
          try (rw [decide_eq_true hg30.2.1]; conv => lhs; whnf)
          try (rw [decide_eq_true hg30.2.2])
          conv => lhs; whnf
          try rw [cut_of (r := rI) (l := a_0.Remap)]
          try (rw [hb22]; conv => lhs; whnf)
          try (rw [hb22]; conv => lhs; whnf)
          obtain ⟨y23, h_y23, h⟩ := callK_inv h
          rw [cl_eq hcl (L_spec_l00Has ((a_0.Remap.drop (Int.toNat 0)).take (Int.toNat (i17 : Int) - Int.toNat 0)) x19 h_y23)]
          rotate_left
          · show _ = _; kernel_rfl
          · show _ = _; kernel_rfl
          conv => lhs; whnf
          try (rw [hb22]; conv => lhs; whnf)
          cases hb24 : y23
          · replace h := ifF h (booF hb24); conv => lhs; whnf
            cases hb25 : (x19 != y20)
            · replace h := ifF h ((fun h => not_not_intro (bneF h)) hb25); conv => lhs; whnf
              try (rw [hb25]; conv => lhs; whnf)
              try (rw [hb25]; conv => lhs; whnf)
              try (rw [hb25]; conv => lhs; whnf)
              try (rw [hb25]; conv => lhs; whnf)
              try (rw [hb25]; conv => lhs; whnf)
              try (rw [hb25]; conv => lhs; whnf)
              try (rw [hb25]; conv => lhs; whnf)
              try (rw [hb25]; conv => lhs; whnf)
              try (rw [hb25]; conv => lhs; whnf)
              try (rw [hb25]; conv => lhs; whnf)
              try (rw [hb25]; conv => lhs; whnf)
              rw [wrap_nat i17 (by have := hn_i17; omega)]
              exact hnx18 _ _ _ _ (fun kk => by kernel_rfl) h
            · replace h := ifT h (bneT hb25); conv => lhs; whnf
              try (rw [hb25]; conv => lhs; whnf)
              try (rw [hb25]; conv => lhs; whnf)
              try (rw [hb25]; conv => lhs; whnf)
              try (rw [hb25]; conv => lhs; whnf)
              try (rw [hb25]; conv => lhs; whnf)
              obtain ⟨hg31, h⟩ := grd_inv h
              rw [quo_run _ _ _ _ hg31]
              conv => lhs; whnf
              try (rw [hb25]; conv => lhs; whnf)
              try (rw [hb25]; conv => lhs; whnf)
              obtain ⟨y26, h_y26, h⟩ := callK_inv h
              rw [cl_eq hcl (L_spec_l07SpareOf a_0 (IntKind.i64.wrap (Int.tdiv y20 a_0.Geo.Blocks)) x19 h_y26)]
              rotate_left
              · show _ = _; kernel_rfl
              · show _ = _; kernel_rfl
              conv => lhs; whnf
              try (rw [hb25]; conv => lhs; whnf)
              cases hb27 : y26
              · replace h := ifF h (booF hb27); conv => lhs; whnf
                try (rw [hb27]; conv => lhs; whnf)
                try (rw [hb27]; conv => lhs; whnf)
                try (rw [hb27]; conv => lhs; whnf)
                try (rw [hb25]; conv => lhs; whnf)
                try (rw [hb27]; conv => lhs; whnf)
                try (rw [hb25]; conv => lhs; whnf)
                try (rw [hb25]; conv => lhs; whnf)
                obtain rfl := Option.some.inj h; show _ = _; kernel_rfl
              · replace h := ifT h hb27; conv => lhs; whnf
                try (rw [hb27]; conv => lhs; whnf)
                try (rw [hb27]; conv => lhs; whnf)
                try (rw [hb27]; conv => lhs; whnf)
                obtain ⟨y28, h_y28, h⟩ := callK_inv h
                rw [cl_eq hcl (L_spec_l00Has a_0.Bad y20 h_y28)]
                rotate_left
                · show _ = _; kernel_rfl
                · show _ = _; kernel_rfl
                conv => lhs; whnf
                try (rw [hb25]; conv => lhs; whnf)
                try (rw [hb27]; conv => lhs; whnf)
                try (rw [hb25]; conv => lhs; whnf)
                try (rw [hb25]; conv => lhs; whnf)
                cases hb29 : y28
                · replace h := ifF h (booF hb29); conv => lhs; whnf
                  obtain rfl := Option.some.inj h; show _ = _; kernel_rfl
                · replace h := ifT h hb29; conv => lhs; whnf
                  rw [wrap_nat i17 (by have := hn_i17; omega)]
                  exact hnx18 _ _ _ _ (fun kk => by kernel_rfl) h
          · replace h := ifT h hb24; conv => lhs; whnf
            obtain rfl := Option.some.inj h; show _ = _; kernel_rfl
        · replace h := ifT h hb22; conv => lhs; whnf
          try (rw [hb22]; conv => lhs; whnf)
          try (rw [hb22]; conv => lhs; whnf)
          try (rw [hb22]; conv => lhs; whnf)
          try (rw [hb22]; conv => lhs; whnf)
          try (rw [hb22]; conv => lhs; whnf)
          try (rw [hb22]; conv => lhs; whnf)
          obtain rfl := Option.some.inj h; show _ = _; kernel_rfl
      · clear h
        rintro next_nx18 ⟨⟩ r h
        try dsimp only at h
        have hd_i17 : (decide ((a_0.Remap.length : Int) < (a_0.Remap.length : Int))) = false := decide_eq_false (by omega)
        conv => lhs; whnf
        try rw [len_of (l := a_0.Remap) (r := rI)]
        rw [hd_i17]
        conv => lhs; whnf
        obtain rfl := Option.some.inj h; show _ = _; kernel_rfl
    · replace h := ifT h (bneT hb3); conv => lhs; whnf
      obtain rfl := Option.some.inj h; show _ = _; kernel_rfl

noncomputable def p_spec_l07Own (a_0 : Int) (a_1 : Int) (a_2 : Int) (a_3 : Int) (a_4 : List Int) (a_5 : List Int) : Option Unit :=
  callK (p_spec_l00Own a_4) fun y1 =>
  callK (p_spec_l00Own a_5) fun y2 =>
  some ()

set_option maxHeartbeats 4000000 in
theorem L_spec_l07Own (a_0 : Int) (a_1 : Int) (a_2 : Int) (a_3 : Int) (a_4 : List Int) (a_5 : List Int) {r : Unit} (h : p_spec_l07Own a_0 a_1 a_2 a_3 a_4 a_5 = some r) : callL E 116 [.agg [IN a_0, IN a_1, IN a_2, IN a_3, .sl 0, .sl 1]] ([some (.arr 2 1 (a_4.map rI)), some (.arr 2 1 (a_5.map rI))] : Fo) = some (.agg [IN a_0, IN a_1, IN a_2, IN a_3, .sl 2, .sl 3], ([some (.arr 2 1 (a_4.map rI)), some (.arr 2 1 (a_5.map rI)), some (.arr 2 1 (a_4.map rI)), some (.arr 2 1 (a_5.map rI))] : Fo)) := by
  unfold p_spec_l07Own at h
  refine callW (fu := Try.f116) rfl rfl rfl NN ?_
  intro lp cl hlp hcl
  conv => lhs; whnf
  obtain ⟨y1, h_y1, h⟩ := callK_inv h
  rw [cl_eq hcl (L_spec_l00Own a_4 h_y1)]
  rotate_left
  · show _ = _; kernel_rfl
  · show _ = _; kernel_rfl
  conv => lhs; whnf
  obtain ⟨y2, h_y2, h⟩ := callK_inv h
  rw [cl_eq hcl (L_spec_l00Own a_5 h_y2)]
  rotate_left
  · show _ = _; kernel_rfl
  · show _ = _; kernel_rfl
  conv => lhs; whnf
  obtain rfl := Option.some.inj h; show _ = _; kernel_rfl

noncomputable def p_spec_l00Put (a_0 : List Int) (a_1 : Int) : Option (List Int) :=
  grd (a_0.length < 4611686018427387904) <|
  forK a_0 (fun (i10 : Nat) x14 ((v11, v12) : (Bool × (List Int))) (nx13 : (Bool × (List Int)) → Option _) =>
    if v11 = true then
      grd (appOk (v12.length + 1) 8 = true) <|
      nx13 (true, (v12 ++ ([x14] : List Int)))
    else
      if x14 ≥ a_1 then
        if x14 > a_1 then
          grd (appOk (v12.length + 1) 8 = true) <|
          grd (appOk ((v12 ++ ([a_1] : List Int)).length + 1) 8 = true) <|
          nx13 (true, ((v12 ++ ([a_1] : List Int)) ++ ([x14] : List Int)))
        else
          grd (appOk (v12.length + 1) 8 = true) <|
          nx13 (true, (v12 ++ ([x14] : List Int)))
      else
        grd (appOk (v12.length + 1) 8 = true) <|
        nx13 (false, (v12 ++ ([x14] : List Int)))) (false, ([] : List Int)) (fun ((v11, v12) : (Bool × (List Int))) =>
    if v11 = true then
      some v12
    else
      grd (appOk (v12.length + 1) 8 = true) <|
      some (v12 ++ ([a_1] : List Int)))

set_option maxHeartbeats 4000000 in
theorem L_spec_l00Put (a_0 : List Int) (a_1 : Int) {r : (List Int)} (h : p_spec_l00Put a_0 a_1 = some r) : callL E 117 [.d (.arr (a_0.map rI)), IN a_1] ([] : Fo) = some (.sl 0, ([some (.arr 2 1 (r.map rI))] : Fo)) := by
  unfold p_spec_l00Put at h
  refine callW (fu := Try.f117) rfl rfl rfl NN ?_
  intro lp cl hlp hcl
  conv => lhs; whnf
  obtain ⟨hl_i10, h⟩ := grd_inv h
  refine loop_for hlp (l := a_0) hl_i10 (fun (i10 : Nat) ((v11, v12) : (Bool × (List Int))) => ([.d (.arr (a_0.map rI)), IN a_1, .dead, .dead, .dead, .sl 0, BO v11, IN (i10 : Int)] ++ List.replicate 41 .dead : List V)) (fun (i10 : Nat) ((v11, v12) : (Bool × (List Int))) => ([some (.arr 2 1 (v12.map rI))] : Fo)) (fun (r : (List Int)) => ((.sl 0 : V), ([some (.arr 2 1 (r.map rI))] : Fo))) ?_ ?_ (false, ([] : List Int)) _ (fun kk => by kernel_rfl) h
  · clear h
    rintro next_nx13 nx13 i10 hi_i10 hnx13 ⟨v11, v12⟩ r h
    try dsimp only at h
    have hn_i10 : i10 < 4611686018427387904 := by omega
    have hx_x14 := get_map rI a_0 i10 hi_i10
    generalize a_0[i10] = x14 at h hx_x14
    have hd_i10 : (decide ((i10 : Int) < (a_0.length : Int))) = true := decide_eq_true (by omega)
    conv => lhs; whnf
    try rw [len_of (l := a_0) (r := rI)]
    rw [hd_i10]
    conv => lhs; whnf
    cases hb15 : v11
    · replace h := ifF h (booF hb15); conv => lhs; whnf
      try (rw [hb15]; conv => lhs; whnf)
      try (rw [hb15]; conv => lhs; whnf)
      try (rw [decide_eq_true hq_x14]; conv => lhs; whnf)
      rw [hx_x14]
      conv => lhs; whnf
      try (rw [hb15]; conv => lhs; whnf)
      rw [hx_x14]
      conv => lhs; whnf
      try (rw [hb15]; conv => lhs; whnf)
      try (rw [hb15]; conv => lhs; whnf)
      try (rw [hb15]; conv => lhs; whnf)
      cases hb16 : (decide (x14 ≥ a_1))
      · replace h := ifF h (decF hb16); conv => lhs; whnf
        try (rw [decide_eq_true hq_x14]; conv => lhs; whnf)
        rw [hx_x14]
        conv => lhs; whnf
        rw [hx_x14]
        conv => lhs; whnf
        obtain ⟨hg19, h⟩ := grd_inv h
        rw [app_eq hg19 ?h1 ?h2]
        case h1 => first | exact rfl | (simp only [List.length_map, List.length_cons, List.length_nil]; done) | (rw [List.length_map]; rfl)
        case h2 => exact rfl
        conv => lhs; whnf
        first | (rw [map_app_of (r := rI) (l := v12) (m := ([x14] : List Int)) ?hh]; case hh => exact rfl) | skip
        rw [wrap_nat i10 (by have := hn_i10; omega)]
        exact hnx13 _ _ _ _ (fun kk => by kernel_rfl) h
      · replace h := ifT h (decT hb16); conv => lhs; whnf
        try (rw [decide_eq_true hq_x14]; conv => lhs; whnf)
        rw [hx_x14]
        conv => lhs; whnf
        rw [hx_x14]
        conv => lhs; whnf
        cases hb17 : (decide (x14 > a_1))
        · replace h := ifF h (decF hb17); conv => lhs; whnf
          try (rw [decide_eq_true hq_x14]; conv => lhs; whnf)
          rw [hx_x14]
          conv => lhs; whnf
          rw [hx_x14]
          conv => lhs; whnf
          obtain ⟨hg20, h⟩ := grd_inv h
          rw [app_eq hg20 ?h1 ?h2]
          case h1 => first | exact rfl | (simp only [List.length_map, List.length_cons, List.length_nil]; done) | (rw [List.length_map]; rfl)
          case h2 => exact rfl
          conv => lhs; whnf
          first | (rw [map_app_of (r := rI) (l := v12) (m := ([x14] : List Int)) ?hh]; case hh => exact rfl) | skip
          rw [wrap_nat i10 (by have := hn_i10; omega)]
          exact hnx13 _ _ _ _ (fun kk => by kernel_rfl) h
        · replace h := ifT h (decT hb17); conv => lhs; whnf
          obtain ⟨hg21, h⟩ := grd_inv h
          rw [app_eq hg21 ?h1 ?h2]
          case h1 => first | exact rfl | (simp only [List.length_map, List.length_cons, List.length_nil]; done) | (rw [List.length_map]; rfl)
          case h2 => exact rfl
          conv => lhs; whnf
          first | (rw [map_app_of (r := rI) (l := v12) (m := ([a_1] : List Int)) ?hh]; case hh => exact rfl) | skip
          try (rw [decide_eq_true hq_x14]; conv => lhs; whnf)
          rw [hx_x14]
          conv => lhs; whnf
          rw [hx_x14]
          conv => lhs; whnf
          obtain ⟨hg22, h⟩ := grd_inv h
          rw [app_eq hg22 ?h1 ?h2]
          case h1 => first | exact rfl | (simp only [List.length_map, List.length_cons, List.length_nil]; done) | (rw [List.length_map]; rfl)
          case h2 => exact rfl
          conv => lhs; whnf
          first | (rw [map_app_of (r := rI) (l := (v12 ++ ([a_1] : List Int))) (m := ([x14] : List Int)) ?hh]; case hh => exact rfl) | skip
          rw [wrap_nat i10 (by have := hn_i10; omega)]
          exact hnx13 _ _ _ _ (fun kk => by kernel_rfl) h
    · replace h := ifT h hb15; conv => lhs; whnf
      try (rw [hb15]; conv => lhs; whnf)
      try (rw [hb15]; conv => lhs; whnf)
      try (rw [hb15]; conv => lhs; whnf)
      try (rw [hb15]; conv => lhs; whnf)
      try (rw [hb15]; conv => lhs; whnf)
      try (rw [hb15]; conv => lhs; whnf)
      try (rw [decide_eq_true hq_x14]; conv => lhs; whnf)
      rw [hx_x14]
      conv => lhs; whnf
      rw [hx_x14]
      conv => lhs; whnf
      obtain ⟨hg23, h⟩ := grd_inv h
      rw [app_eq hg23 ?h1 ?h2]
      case h1 => first | exact rfl | (simp only [List.length_map, List.length_cons, List.length_nil]; done) | (rw [List.length_map]; rfl)
      case h2 => exact rfl
      conv => lhs; whnf
      first | (rw [map_app_of (r := rI) (l := v12) (m := ([x14] : List Int)) ?hh]; case hh => exact rfl) | skip
      rw [wrap_nat i10 (by have := hn_i10; omega)]
      exact hnx13 _ _ _ _ (fun kk => by kernel_rfl) h
  · clear h
    rintro next_nx13 ⟨v11, v12⟩ r h
    try dsimp only at h
    have hd_i10 : (decide ((a_0.length : Int) < (a_0.length : Int))) = false := decide_eq_false (by omega)
    conv => lhs; whnf
    try rw [len_of (l := a_0) (r := rI)]
    rw [hd_i10]
    conv => lhs; whnf
    cases hb18 : v11
    · replace h := ifF h (booF hb18); conv => lhs; whnf
      obtain ⟨hg24, h⟩ := grd_inv h
      rw [app_eq hg24 ?h1 ?h2]
      case h1 => first | exact rfl | (simp only [List.length_map, List.length_cons, List.length_nil]; done) | (rw [List.length_map]; rfl)
      case h2 => exact rfl
      conv => lhs; whnf
      first | (rw [map_app_of (r := rI) (l := v12) (m := ([a_1] : List Int)) ?hh]; case hh => exact rfl) | skip
      obtain rfl := Option.some.inj h; show _ = _; kernel_rfl
    · replace h := ifT h hb18; conv => lhs; whnf
      obtain rfl := Option.some.inj h; show _ = _; kernel_rfl

noncomputable def p_spec_l07Holder (a_0 : BadTable) (a_1 : Int) : Option Int :=
  grd (a_0.Remap.length < 4611686018427387904) <|
  forK a_0.Remap (fun (i5 : Nat) x7 (_ : Unit) (nx6 : Unit → Option _) =>
    if x7 = a_1 then
      some (i5 : Int)
    else
      nx6 ()) () (fun (_ : Unit) =>
    some (-1))

set_option maxHeartbeats 4000000 in
theorem L_spec_l07Holder (a_0 : BadTable) (a_1 : Int) {r : Int} (h : p_spec_l07Holder a_0 a_1 = some r) : callL E 118 [.agg [IN a_0.Geo.Dies, IN a_0.Geo.Blocks, IN a_0.Geo.Pages, IN a_0.Spare, .d (.arr (a_0.Bad.map rI)), .d (.arr (a_0.Remap.map rI))], IN a_1] ([] : Fo) = some (IN r, ([] : Fo)) := by
  unfold p_spec_l07Holder at h
  refine callW (fu := Try.f118) rfl rfl rfl NN ?_
  intro lp cl hlp hcl
  conv => lhs; whnf
  obtain ⟨hl_i5, h⟩ := grd_inv h
  refine loop_for hlp (l := a_0.Remap) hl_i5 (fun (i5 : Nat) (_ : Unit) => ([.dead, IN a_1, .bp 0 0, .dead, .dead, IN (i5 : Int)] ++ List.replicate 15 .dead : List V)) (fun (i5 : Nat) (_ : Unit) => ([some (.box [IN a_0.Geo.Dies, IN a_0.Geo.Blocks, IN a_0.Geo.Pages, IN a_0.Spare, .d (.arr (a_0.Bad.map rI)), .d (.arr (a_0.Remap.map rI))])] : Fo)) (fun (r : Int) => ((IN r : V), ([] : Fo))) ?_ ?_ () _ (fun kk => by kernel_rfl) h
  · clear h
    rintro next_nx6 nx6 i5 hi_i5 hnx6 ⟨⟩ r h
    try dsimp only at h
    have hn_i5 : i5 < 4611686018427387904 := by omega
    have hx_x7 := get_map rI a_0.Remap i5 hi_i5
    generalize a_0.Remap[i5] = x7 at h hx_x7
    have hd_i5 : (decide ((i5 : Int) < (a_0.Remap.length : Int))) = true := decide_eq_true (by omega)
    conv => lhs; whnf
    try rw [len_of (l := a_0.Remap) (r := rI)]
    rw [hd_i5]
    conv => lhs; whnf
    try (rw [decide_eq_true hq_x7]; conv => lhs; whnf)
    rw [hx_x7]
    conv => lhs; whnf
    rw [hx_x7]
    conv => lhs; whnf
    cases hb8 : (x7 == a_1)
    · replace h := ifF h (beqF hb8); conv => lhs; whnf
      rw [wrap_nat i5 (by have := hn_i5; omega)]
      exact hnx6 _ _ _ _ (fun kk => by kernel_rfl) h
    · replace h := ifT h (beqT hb8); conv => lhs; whnf
      obtain rfl := Option.some.inj h; show _ = _; kernel_rfl
  · clear h
    rintro next_nx6 ⟨⟩ r h
    try dsimp only at h
    have hd_i5 : (decide ((a_0.Remap.length : Int) < (a_0.Remap.length : Int))) = false := decide_eq_false (by omega)
    conv => lhs; whnf
    try rw [len_of (l := a_0.Remap) (r := rI)]
    rw [hd_i5]
    conv => lhs; whnf
    obtain rfl := Option.some.inj h; show _ = _; kernel_rfl

noncomputable def p_spec_RetireBlock (a_0 : Int) (a_1 : Int) (a_2 : Int) (a_3 : Int) (a_4 : Int) (a_5 : List Int) (a_6 : List Int) : Option (Int × Int × Int × Int × Int × (List Int) × (List Int)) :=
  callK (p_spec_ValidBadTable (⟨⟨a_0, a_1, a_2⟩, a_3, a_5, a_6⟩ : BadTable)) fun y1 =>
  if y1 = true then
    callK (p_spec_l07Count (⟨a_0, a_1, a_2⟩ : Geometry)) fun y3 =>
    if (inR a_4 0 (IntKind.i64.wrap (y3 - 1))) = true then
      callK (p_spec_l00Has a_5 a_4) fun y5 =>
      if y5 = true then
        some (0, 0, 0, 0, 5, ([] : List Int), ([] : List Int))
      else
        callK (p_spec_l07Own a_0 a_1 a_2 a_3 a_5 a_6) fun y7 =>
        callK (p_spec_l00Put a_5 a_4) fun y8 =>
        callK (p_spec_l07Holder (⟨⟨a_0, a_1, a_2⟩, a_3, a_5, a_6⟩ : BadTable) a_4) fun y9 =>
        if y9 < 0 then
          some (a_0, a_1, a_2, a_3, 0, y8, a_6)
        else
          grd (a_1 ≠ 0) <|
          callK (p_spec_l07Available a_0 a_1 a_2 a_3 (IntKind.i64.wrap (Int.tdiv a_4 a_1)) y8 a_6) fun y11 =>
          if (y11.length : Int) = 0 then
            some (0, 0, 0, 0, 4, ([] : List Int), ([] : List Int))
          else
            getK y11 0 fun x13 =>
            getK a_6 y9 fun x14 =>
            some (a_0, a_1, a_2, a_3, 0, y8, (a_6.set (Int.toNat y9) x13))
    else
      some (0, 0, 0, 0, 2, ([] : List Int), ([] : List Int))
  else
    some (0, 0, 0, 0, 1, ([] : List Int), ([] : List Int))

set_option maxHeartbeats 4000000 in
theorem L_spec_RetireBlock (a_0 : Int) (a_1 : Int) (a_2 : Int) (a_3 : Int) (a_4 : Int) (a_5 : List Int) (a_6 : List Int) {r : (Int × Int × Int × Int × Int × (List Int) × (List Int))} (h : p_spec_RetireBlock a_0 a_1 a_2 a_3 a_4 a_5 a_6 = some r) : callL E 26 [.agg [IN a_0, IN a_1, IN a_2, IN a_3, .sl 0, .sl 1], IN a_4] ([some (.arr 2 1 (a_5.map rI)), some (.arr 2 1 (a_6.map rI))] : Fo) = some (.tup [.agg [IN r.1, IN r.2.1, IN r.2.2.1, IN r.2.2.2.1, .sl 2, .sl 3], IN r.2.2.2.2.1], ([some (.arr 2 1 (a_5.map rI)), some (.arr 2 1 (a_6.map rI)), some (.arr 2 1 (r.2.2.2.2.2.1.map rI)), some (.arr 2 1 (r.2.2.2.2.2.2.map rI))] : Fo)) := by
  unfold p_spec_RetireBlock at h
  refine callW (fu := Try.f26) rfl rfl rfl NN ?_
  intro lp cl hlp hcl
  conv => lhs; whnf
  obtain ⟨y1, h_y1, h⟩ := callK_inv h
  rw [cl_eq hcl (L_spec_ValidBadTable (⟨⟨a_0, a_1, a_2⟩, a_3, a_5, a_6⟩ : BadTable) h_y1)]
  rotate_left
  · show _ = _; kernel_rfl
  · show _ = _; kernel_rfl
  conv => lhs; whnf
  cases hb2 : y1
  · replace h := ifF h (booF hb2); conv => lhs; whnf
    obtain rfl := Option.some.inj h; show _ = _; kernel_rfl
  · replace h := ifT h hb2
    try rw [hb2] at h
    conv => lhs; whnf
    obtain ⟨y3, h_y3, h⟩ := callK_inv h
    rw [cl_eq hcl (L_spec_l07Count (⟨a_0, a_1, a_2⟩ : Geometry) h_y3)]
    rotate_left
    · show _ = _; kernel_rfl
    · show _ = _; kernel_rfl
    conv => lhs; whnf
    rw [cl_eq hcl (L_spec_l00In a_4 0 (IntKind.i64.wrap (y3 - 1)) (pl_l00In a_4 0 (IntKind.i64.wrap (y3 - 1))))]
    rotate_left
    · show _ = _; kernel_rfl
    · show _ = _; kernel_rfl
    conv => lhs; whnf
    cases hb4 : (inR a_4 0 (IntKind.i64.wrap (y3 - 1)))
    · replace h := ifF h (booF hb4); conv => lhs; whnf
      obtain rfl := Option.some.inj h; show _ = _; kernel_rfl
    · replace h := ifT h hb4; conv => lhs; whnf
      obtain ⟨y5, h_y5, h⟩ := callK_inv h
      rw [cl_eq hcl (L_spec_l00Has a_5 a_4 h_y5)]
      rotate_left
      · show _ = _; kernel_rfl
      · show _ = _; kernel_rfl
      conv => lhs; whnf
      cases hb6 : y5
      · replace h := ifF h (booF hb6); conv => lhs; whnf
        obtain ⟨y7, h_y7, h⟩ := callK_inv h
        rw [cl_eq hcl (L_spec_l07Own a_0 a_1 a_2 a_3 a_5 a_6 h_y7)]
        rotate_left
        · show _ = _; kernel_rfl
        · show _ = _; kernel_rfl
        conv => lhs; whnf
        obtain ⟨y8, h_y8, h⟩ := callK_inv h
        rw [cl_eq hcl (L_spec_l00Put a_5 a_4 h_y8)]
        rotate_left
        · show _ = _; kernel_rfl
        · show _ = _; kernel_rfl
        conv => lhs; whnf
        obtain ⟨y9, h_y9, h⟩ := callK_inv h
        rw [cl_eq hcl (L_spec_l07Holder (⟨⟨a_0, a_1, a_2⟩, a_3, a_5, a_6⟩ : BadTable) a_4 h_y9)]
        rotate_left
        · show _ = _; kernel_rfl
        · show _ = _; kernel_rfl
        conv => lhs; whnf
        cases hb10 : (decide (y9 < 0))
        · replace h := ifF h (decF hb10); conv => lhs; whnf
          obtain ⟨hg15, h⟩ := grd_inv h
          rw [quo_run _ _ _ _ hg15]
          conv => lhs; whnf
          obtain ⟨y11, h_y11, h⟩ := callK_inv h
          rw [cl_eq hcl (L_spec_l07Available a_0 a_1 a_2 a_3 (IntKind.i64.wrap (Int.tdiv a_4 a_1)) y8 a_6 h_y11)]
          rotate_left
          · show _ = _; kernel_rfl
          · show _ = _; kernel_rfl
          conv => lhs; whnf
          try rw [len_of (l := y11) (r := rI)]
          cases hb12 : ((y11.length : Int) == 0)
          · replace h := ifF h (beqF hb12); conv => lhs; whnf
            obtain ⟨x13, hq_x13, hx_x13', h⟩ := getK_inv h
            have hx_x13 := get_of (r := rI) hx_x13'
            try (rw [decide_eq_true hq_x13]; conv => lhs; whnf)
            rw [hx_x13]
            conv => lhs; whnf
            rw [hx_x13]
            conv => lhs; whnf
            obtain ⟨x14, hq_x14, hx_x14', h⟩ := getK_inv h
            have hx_x14 := get_of (r := rI) hx_x14'
            try (rw [decide_eq_true hq_x14]; conv => lhs; whnf)
            rw [hx_x14]
            conv => lhs; whnf
            rw [hx_x14]
            conv => lhs; whnf
            first | (rw [map_set_of (r := rI) (l := a_6) (x := x13) ?hh]; case hh => exact rfl) | skip
            obtain rfl := Option.some.inj h; show _ = _; kernel_rfl
          · replace h := ifT h (beqT hb12); conv => lhs; whnf
            obtain rfl := Option.some.inj h; show _ = _; kernel_rfl
        · replace h := ifT h (decT hb10); conv => lhs; whnf
          obtain rfl := Option.some.inj h; show _ = _; kernel_rfl
      · replace h := ifT h hb6; conv => lhs; whnf
        obtain rfl := Option.some.inj h; show _ = _; kernel_rfl

noncomputable def p_spec_l07Draw (a_0 : Sl00Src) : Option (BadTable × Sl00Src) :=
  callK (p_spec_l07Geo a_0) fun y1 =>
  iterK (fun ((v2, v3, v4) : (Int × Sl00Src × (List Int))) (nx5 : (Int × Sl00Src × (List Int)) → Option _) =>
    callK (p_spec_l07Count y1.1) fun y6 =>
    if v2 < y6 then
      callK (p_spec_l00Src_one 9 v3) fun y8 =>
      if y8.1 = true then
        grd (appOk (v4.length + 1) 8 = true) <|
        nx5 ((IntKind.i64.wrap (v2 + 1)), y8.2, (v4 ++ ([v2] : List Int)))
      else
        nx5 ((IntKind.i64.wrap (v2 + 1)), y8.2, v4)
    else
      callK (p_spec_l00Src_pick 2 v3) fun y10 =>
      callK (p_spec_NewBadTable y1.1 (IntKind.i64.wrap (1 + y10.1)) v4) fun y11 =>
      if ¬ y11.2.2.2.2.1 = 0 then
        callK (p_spec_l00Src_pick 2 y10.2) fun y13 =>
        callK (p_spec_NewBadTable' y1.1 (IntKind.i64.wrap (1 + y13.1)) ([] : List Int)) fun y14 =>
        callK (p_spec_l00Src_pick 4 y13.2) fun y15 =>
        iterK (fun ((v16, v17, v18, v19, v20, v21, v22, v23) : (Int × Sl00Src × Int × Int × Int × Int × (List Int) × (List Int))) (nx24 : (Int × Sl00Src × Int × Int × Int × Int × (List Int) × (List Int)) → Option _) =>
          if v16 > 0 then
            callK (p_spec_l07Count y1.1) fun y26 =>
            callK (p_spec_l00Src_pick y26 v17) fun y27 =>
            callK (p_spec_RetireBlock v18 v19 v20 v21 y27.1 v22 v23) fun y28 =>
            if y28.2.2.2.2.1 = 0 then
              nx24 ((IntKind.i64.wrap (v16 - 1)), y27.2, y28.1, y28.2.1, y28.2.2.1, y28.2.2.2.1, y28.2.2.2.2.2.1, y28.2.2.2.2.2.2)
            else
              nx24 ((IntKind.i64.wrap (v16 - 1)), y27.2, v18, v19, v20, v21, v22, v23)
          else
            callK (p_spec_l00Src_one 10 v17) fun y30 =>
            if y30.1 = true then
              callK (p_spec_l00Src_pick 4 y30.2) fun y32 =>
              if y32.1 = 0 then
                callK (p_spec_l00Src_among' y32.2 ([0, (IntKind.i64.wrap (v19 - 1)), 4, 5] : List Int)) fun y34 =>
                some ((⟨⟨v18, v19, v20⟩, y34.1, v22, v23⟩ : BadTable), y34.2)
              else
                if y32.1 = 1 then
                  callK (p_spec_l00Src_among' y32.2 ([(-1), 0, 50] : List Int)) fun y36 =>
                  grd (appOk (v22.length + 1) 8 = true) <|
                  some ((⟨⟨v18, v19, v20⟩, v21, (v22 ++ ([y36.1] : List Int)), v23⟩ : BadTable), y36.2)
                else
                  if y32.1 = 2 then
                    if (v23.length : Int) > 0 then
                      callK (p_spec_l00Src_pick (v23.length : Int) y32.2) fun y39 =>
                      callK (p_spec_l07Count y1.1) fun y40 =>
                      callK (p_spec_l00Src_pick y40 y39.2) fun y41 =>
                      getK v23 y39.1 fun x42 =>
                      some ((⟨⟨v18, v19, v20⟩, v21, v22, (v23.set (Int.toNat y39.1) y41.1)⟩ : BadTable), y41.2)
                    else
                      some ((⟨⟨v18, v19, v20⟩, v21, v22, v23⟩ : BadTable), y32.2)
                  else
                    if y32.1 = 3 then
                      callK (p_spec_l00Src_among' y32.2 ([1, 3, 4] : List Int)) fun y44 =>
                      some ((⟨⟨y44.1, v19, v20⟩, v21, v22, v23⟩ : BadTable), y44.2)
                    else
                      some ((⟨⟨v18, v19, v20⟩, v21, v22, v23⟩ : BadTable), y32.2)
            else
              some ((⟨⟨v18, v19, v20⟩, v21, v22, v23⟩ : BadTable), y30.2)) NN (y15.1, y15.2, y14.1, y14.2.1, y14.2.2.1, y14.2.2.2.1, y14.2.2.2.2.2.1, y14.2.2.2.2.2.2)
      else
        callK (p_spec_l00Src_pick 4 y10.2) fun y45 =>
        iterK (fun ((v46, v47, v48, v49, v50, v51, v52, v53) : (Int × Sl00Src × Int × Int × Int × Int × (List Int) × (List Int))) (nx54 : (Int × Sl00Src × Int × Int × Int × Int × (List Int) × (List Int)) → Option _) =>
          if v46 > 0 then
            callK (p_spec_l07Count y1.1) fun y56 =>
            callK (p_spec_l00Src_pick y56 v47) fun y57 =>
            callK (p_spec_RetireBlock v48 v49 v50 v51 y57.1 v52 v53) fun y58 =>
            if y58.2.2.2.2.1 = 0 then
              nx54 ((IntKind.i64.wrap (v46 - 1)), y57.2, y58.1, y58.2.1, y58.2.2.1, y58.2.2.2.1, y58.2.2.2.2.2.1, y58.2.2.2.2.2.2)
            else
              nx54 ((IntKind.i64.wrap (v46 - 1)), y57.2, v48, v49, v50, v51, v52, v53)
          else
            callK (p_spec_l00Src_one 10 v47) fun y60 =>
            if y60.1 = true then
              callK (p_spec_l00Src_pick 4 y60.2) fun y62 =>
              if y62.1 = 0 then
                callK (p_spec_l00Src_among' y62.2 ([0, (IntKind.i64.wrap (v49 - 1)), 4, 5] : List Int)) fun y64 =>
                some ((⟨⟨v48, v49, v50⟩, y64.1, v52, v53⟩ : BadTable), y64.2)
              else
                if y62.1 = 1 then
                  callK (p_spec_l00Src_among' y62.2 ([(-1), 0, 50] : List Int)) fun y66 =>
                  grd (appOk (v52.length + 1) 8 = true) <|
                  some ((⟨⟨v48, v49, v50⟩, v51, (v52 ++ ([y66.1] : List Int)), v53⟩ : BadTable), y66.2)
                else
                  if y62.1 = 2 then
                    if (v53.length : Int) > 0 then
                      callK (p_spec_l00Src_pick (v53.length : Int) y62.2) fun y69 =>
                      callK (p_spec_l07Count y1.1) fun y70 =>
                      callK (p_spec_l00Src_pick y70 y69.2) fun y71 =>
                      getK v53 y69.1 fun x72 =>
                      some ((⟨⟨v48, v49, v50⟩, v51, v52, (v53.set (Int.toNat y69.1) y71.1)⟩ : BadTable), y71.2)
                    else
                      some ((⟨⟨v48, v49, v50⟩, v51, v52, v53⟩ : BadTable), y62.2)
                  else
                    if y62.1 = 3 then
                      callK (p_spec_l00Src_among' y62.2 ([1, 3, 4] : List Int)) fun y74 =>
                      some ((⟨⟨y74.1, v49, v50⟩, v51, v52, v53⟩ : BadTable), y74.2)
                    else
                      some ((⟨⟨v48, v49, v50⟩, v51, v52, v53⟩ : BadTable), y62.2)
            else
              some ((⟨⟨v48, v49, v50⟩, v51, v52, v53⟩ : BadTable), y60.2)) NN (y45.1, y45.2, y11.1, y11.2.1, y11.2.2.1, y11.2.2.2.1, y11.2.2.2.2.2.1, y11.2.2.2.2.2.2)) NN (0, y1.2, ([] : List Int))

set_option maxHeartbeats 4000000 in
theorem L_spec_l07Draw (a_0 : Sl00Src) {r : (BadTable × Sl00Src)} (h : p_spec_l07Draw a_0 = some r) : callL E 106 [.bp 0 0] ([some (.box [.d (.arr (a_0.Code.map rU)), IN a_0.At, .d (.lit (.int .u64 a_0.Seed))])] : Fo) = some (.agg [IN r.1.Geo.Dies, IN r.1.Geo.Blocks, IN r.1.Geo.Pages, IN r.1.Spare, .d (.arr (r.1.Bad.map rI)), .d (.arr (r.1.Remap.map rI))], ([some (.box [.d (.arr (r.2.Code.map rU)), IN r.2.At, .d (.lit (.int .u64 r.2.Seed))])] : Fo)) := by
  unfold p_spec_l07Draw at h
  refine callW (fu := Try.f106) rfl rfl rfl NN ?_
  intro lp cl hlp hcl
  conv => lhs; whnf
  obtain ⟨y1, h_y1, h⟩ := callK_inv h
  rw [cl_eq hcl (L_spec_l07Geo a_0 h_y1)]
  rotate_left
  · show _ = _; kernel_rfl
  · show _ = _; kernel_rfl
  conv => lhs; whnf
  refine loop_iter hlp (fun ((v2, v3, v4) : (Int × Sl00Src × (List Int))) => ([.bp 0 0, .dead, .bp 1 0, .bp 2 0, .sl 3, IN v2] ++ List.replicate 107 .dead : List V)) (fun ((v2, v3, v4) : (Int × Sl00Src × (List Int))) => ([some (.box [.d (.arr (v3.Code.map rU)), IN v3.At, .d (.lit (.int .u64 v3.Seed))]), some (.box [IN 0, IN 0, IN 0, IN 0, .d (.arr (([] : List Int).map rI)), .d (.arr (([] : List Int).map rI))]), some (.box [IN y1.1.Dies, IN y1.1.Blocks, IN y1.1.Pages]), some (.arr 2 1 (v4.map rI))] : Fo)) (fun (r : (BadTable × Sl00Src)) => ((.agg [IN r.1.Geo.Dies, IN r.1.Geo.Blocks, IN r.1.Geo.Pages, IN r.1.Spare, .d (.arr (r.1.Bad.map rI)), .d (.arr (r.1.Remap.map rI))] : V), ([some (.box [.d (.arr (r.2.Code.map rU)), IN r.2.At, .d (.lit (.int .u64 r.2.Seed))])] : Fo))) ?_ (0, y1.2, ([] : List Int)) _ (fun kk => by kernel_rfl) h
  clear h
  rintro next_nx5 nx5 hnx5 ⟨v2, v3, v4⟩ r h
  try dsimp only at h
  conv => lhs; whnf
  obtain ⟨y6, h_y6, h⟩ := callK_inv h
  rw [cl_eq hcl (L_spec_l07Count y1.1 h_y6)]
  rotate_left
  · show _ = _; kernel_rfl
  · show _ = _; kernel_rfl
  conv => lhs; whnf
  cases hb7 : (decide (v2 < y6))
  · replace h := ifF h (decF hb7); conv => lhs; whnf
    obtain ⟨y10, h_y10, h⟩ := callK_inv h
    rw [cl_eq hcl (L_spec_l00Src_pick 2 v3 h_y10)]
    rotate_left
    · show _ = _; kernel_rfl
    · show _ = _; kernel_rfl
    conv => lhs; whnf
    obtain ⟨y11, h_y11, h⟩ := callK_inv h
    rw [cl_eq hcl (L_spec_NewBadTable y1.1 (IntKind.i64.wrap (1 + y10.1)) v4 h_y11)]
    rotate_left
    · show _ = _; kernel_rfl
    · show _ = _; kernel_rfl
    conv => lhs; whnf
    cases hb12 : (y11.2.2.2.2.1 != 0)
    · replace h := ifF h ((fun h => not_not_intro (bneF h)) hb12); conv => lhs; whnf
      obtain ⟨y45, h_y45, h⟩ := callK_inv h
      rw [cl_eq hcl (L_spec_l00Src_pick 4 y10.2 h_y45)]
      rotate_left
      · show _ = _; kernel_rfl
      · show _ = _; kernel_rfl
      conv => lhs; whnf
      refine loop_iter hlp (fun ((v46, v47, v48, v49, v50, v51, v52, v53) : (Int × Sl00Src × Int × Int × Int × Int × (List Int) × (List Int))) => ([.bp 0 0, .dead, .bp 1 0, .bp 2 0, .dead, .dead, .bp 3 0, .dead, IN v46] ++ List.replicate 104 .dead : List V)) (fun ((v46, v47, v48, v49, v50, v51, v52, v53) : (Int × Sl00Src × Int × Int × Int × Int × (List Int) × (List Int))) => ([some (.box [.d (.arr (v47.Code.map rU)), IN v47.At, .d (.lit (.int .u64 v47.Seed))]), some (.box [IN 0, IN 0, IN 0, IN 0, .d (.arr (([] : List Int).map rI)), .d (.arr (([] : List Int).map rI))]), some (.box [IN y1.1.Dies, IN y1.1.Blocks, IN y1.1.Pages]), some (.box [IN v48, IN v49, IN v50, IN v51, .sl 4, .sl 5]), some (.arr 2 1 (v52.map rI)), some (.arr 2 1 (v53.map rI))] : Fo)) (fun (r : (BadTable × Sl00Src)) => ((.agg [IN r.1.Geo.Dies, IN r.1.Geo.Blocks, IN r.1.Geo.Pages, IN r.1.Spare, .d (.arr (r.1.Bad.map rI)), .d (.arr (r.1.Remap.map rI))] : V), ([some (.box [.d (.arr (r.2.Code.map rU)), IN r.2.At, .d (.lit (.int .u64 r.2.Seed))])] : Fo))) ?_ (y45.1, y45.2, y11.1, y11.2.1, y11.2.2.1, y11.2.2.2.1, y11.2.2.2.2.2.1, y11.2.2.2.2.2.2) _ (fun kk => by kernel_rfl) h
      clear h
      rintro next_nx54 nx54 hnx54 ⟨v46, v47, v48, v49, v50, v51, v52, v53⟩ r h
      try dsimp only at h
      conv => lhs; whnf
      cases hb55 : (decide (v46 > 0))
      · replace h := ifF h (decF hb55); conv => lhs; whnf
        obtain ⟨y60, h_y60, h⟩ := callK_inv h
        rw [cl_eq hcl (L_spec_l00Src_one 10 v47 h_y60)]
        rotate_left
        · show _ = _; kernel_rfl
        · show _ = _; kernel_rfl
        conv => lhs; whnf
        cases hb61 : y60.1
        · replace h := ifF h (booF hb61); conv => lhs; whnf
          obtain rfl := Option.some.inj h; show _ = _; kernel_rfl
        · replace h := ifT h hb61; conv => lhs; whnf
          obtain ⟨y62, h_y62, h⟩ := callK_inv h
          rw [cl_eq hcl (L_spec_l00Src_pick 4 y60.2 h_y62)]
          rotate_left
          · show _ = _; kernel_rfl
          · show _ = _; kernel_rfl
          conv => lhs; whnf
          cases hb63 : (y62.1 == 0)
          · replace h := ifF h (beqF hb63); conv => lhs; whnf
            cases hb65 : (y62.1 == 1)
            · replace h := ifF h (beqF hb65); conv => lhs; whnf
              cases hb67 : (y62.1 == 2)
              · replace h := ifF h (beqF hb67); conv => lhs; whnf
                cases hb73 : (y62.1 == 3)
                · replace h := ifF h (beqF hb73); conv => lhs; whnf
                  obtain rfl := Option.some.inj h; show _ = _; kernel_rfl
                · replace h := ifT h (beqT hb73); conv => lhs; whnf
                  obtain ⟨y74, h_y74, h⟩ := callK_inv h
                  rw [cl_eq hcl (L_spec_l00Src_among' y62.2 ([1, 3, 4] : List Int) h_y74)]
                  rotate_left
                  · show _ = _; kernel_rfl
                  · show _ = _; kernel_rfl
                  conv => lhs; whnf
                  obtain rfl := Option.some.inj h; show _ = _; kernel_rfl
              · replace h := ifT h (beqT hb67); conv => lhs; whnf
                try rw [len_of (l := v53) (r := rI)]
                cases hb68 : (decide ((v53.length : Int) > 0))
                · replace h := ifF h (decF hb68); conv => lhs; whnf
                  obtain rfl := Option.some.inj h; show _ = _; kernel_rfl
                · replace h := ifT h (decT hb68); conv => lhs; whnf
                  try rw [len_of (l := v53) (r := rI)]
                  obtain ⟨y69, h_y69, h⟩ := callK_inv h
                  rw [cl_eq hcl (L_spec_l00Src_pick (v53.length : Int) y62.2 h_y69)]
                  rotate_left
                  · show _ = _; kernel_rfl
                  · show _ = _; kernel_rfl
                  conv => lhs; whnf
                  obtain ⟨y70, h_y70, h⟩ := callK_inv h
                  rw [cl_eq hcl (L_spec_l07Count y1.1 h_y70)]
                  rotate_left
                  · show _ = _; kernel_rfl
                  · show _ = _; kernel_rfl
                  conv => lhs; whnf
                  obtain ⟨y71, h_y71, h⟩ := callK_inv h
                  rw [cl_eq hcl (L_spec_l00Src_pick y70 y69.2 h_y71)]
                  rotate_left
                  · show _ = _; kernel_rfl
                  · show _ = _; kernel_rfl
                  conv => lhs; whnf
                  obtain ⟨x72, hq_x72, hx_x72', h⟩ := getK_inv h
                  have hx_x72 := get_of (r := rI) hx_x72'
                  try (rw [decide_eq_true hq_x72]; conv => lhs; whnf)
                  rw [hx_x72]
                  conv => lhs; whnf
                  rw [hx_x72]
                  conv => lhs; whnf
                  first | (rw [map_set_of (r := rI) (l := v53) (x := y71.1) ?hh]; case hh => exact rfl) | skip
                  obtain rfl := Option.some.inj h; show _ = _; kernel_rfl
            · replace h := ifT h (beqT hb65); conv => lhs; whnf
              obtain ⟨y66, h_y66, h⟩ := callK_inv h
              rw [cl_eq hcl (L_spec_l00Src_among' y62.2 ([(-1), 0, 50] : List Int) h_y66)]
              rotate_left
              · show _ = _; kernel_rfl
              · show _ = _; kernel_rfl
              conv => lhs; whnf
              obtain ⟨hg75, h⟩ := grd_inv h
              rw [app_eq hg75 ?h1 ?h2]
              case h1 => first | exact rfl | (simp only [List.length_map, List.length_cons, List.length_nil]; done) | (rw [List.length_map]; rfl)
              case h2 => exact rfl
              conv => lhs; whnf
              first | (rw [map_app_of (r := rI) (l := v52) (m := ([y66.1] : List Int)) ?hh]; case hh => exact rfl) | skip
              obtain rfl := Option.some.inj h; show _ = _; kernel_rfl
          · replace h := ifT h (beqT hb63); conv => lhs; whnf
            obtain ⟨y64, h_y64, h⟩ := callK_inv h
            rw [cl_eq hcl (L_spec_l00Src_among' y62.2 ([0, (IntKind.i64.wrap (v49 - 1)), 4, 5] : List Int) h_y64)]
            rotate_left
            · show _ = _; kernel_rfl
            · show _ = _; kernel_rfl
            conv => lhs; whnf
            obtain rfl := Option.some.inj h; show _ = _; kernel_rfl
      · replace h := ifT h (decT hb55); conv => lhs; whnf
        obtain ⟨y56, h_y56, h⟩ := callK_inv h
        rw [cl_eq hcl (L_spec_l07Count y1.1 h_y56)]
        rotate_left
        · show _ = _; kernel_rfl
        · show _ = _; kernel_rfl
        conv => lhs; whnf
        obtain ⟨y57, h_y57, h⟩ := callK_inv h
        rw [cl_eq hcl (L_spec_l00Src_pick y56 v47 h_y57)]
        rotate_left
        · show _ = _; kernel_rfl
        · show _ = _; kernel_rfl
        conv => lhs; whnf
        obtain ⟨y58, h_y58, h⟩ := callK_inv h
        rw [cl_eq hcl (L_spec_RetireBlock v48 v49 v50 v51 y57.1 v52 v53 h_y58)]
        rotate_left
        · show _ = _; kernel_rfl
        · show _ = _; kernel_rfl
        conv => lhs; whnf
        cases hb59 : (y58.2.2.2.2.1 == 0)
        · replace h := ifF h (beqF hb59); conv => lhs; whnf
          exact hnx54 _ _ _ _ (fun kk => by kernel_rfl) h
        · replace h := ifT h (beqT hb59); conv => lhs; whnf
          exact hnx54 _ _ _ _ (fun kk => by kernel_rfl) h
    · replace h := ifT h (bneT hb12); conv => lhs; whnf
      obtain ⟨y13, h_y13, h⟩ := callK_inv h
      rw [cl_eq hcl (L_spec_l00Src_pick 2 y10.2 h_y13)]
      rotate_left
      · show _ = _; kernel_rfl
      · show _ = _; kernel_rfl
      conv => lhs; whnf
      obtain ⟨y14, h_y14, h⟩ := callK_inv h
      rw [cl_eq hcl (L_spec_NewBadTable' y1.1 (IntKind.i64.wrap (1 + y13.1)) ([] : List Int) h_y14)]
      rotate_left
      · show _ = _; kernel_rfl
      · show _ = _; kernel_rfl
      conv => lhs; whnf
      obtain ⟨y15, h_y15, h⟩ := callK_inv h
      rw [cl_eq hcl (L_spec_l00Src_pick 4 y13.2 h_y15)]
      rotate_left
      · show _ = _; kernel_rfl
      · show _ = _; kernel_rfl
      conv => lhs; whnf
      refine loop_iter hlp (fun ((v16, v17, v18, v19, v20, v21, v22, v23) : (Int × Sl00Src × Int × Int × Int × Int × (List Int) × (List Int))) => ([.bp 0 0, .dead, .bp 1 0, .bp 2 0, .dead, .dead, .bp 3 0, .dead, IN v16] ++ List.replicate 104 .dead : List V)) (fun ((v16, v17, v18, v19, v20, v21, v22, v23) : (Int × Sl00Src × Int × Int × Int × Int × (List Int) × (List Int))) => ([some (.box [.d (.arr (v17.Code.map rU)), IN v17.At, .d (.lit (.int .u64 v17.Seed))]), some (.box [IN 0, IN 0, IN 0, IN 0, .d (.arr (([] : List Int).map rI)), .d (.arr (([] : List Int).map rI))]), some (.box [IN y1.1.Dies, IN y1.1.Blocks, IN y1.1.Pages]), some (.box [IN v18, IN v19, IN v20, IN v21, .sl 4, .sl 5]), some (.arr 2 1 (v22.map rI)), some (.arr 2 1 (v23.map rI))] : Fo)) (fun (r : (BadTable × Sl00Src)) => ((.agg [IN r.1.Geo.Dies, IN r.1.Geo.Blocks, IN r.1.Geo.Pages, IN r.1.Spare, .d (.arr (r.1.Bad.map rI)), .d (.arr (r.1.Remap.map rI))] : V), ([some (.box [.d (.arr (r.2.Code.map rU)), IN r.2.At, .d (.lit (.int .u64 r.2.Seed))])] : Fo))) ?_ (y15.1, y15.2, y14.1, y14.2.1, y14.2.2.1, y14.2.2.2.1, y14.2.2.2.2.2.1, y14.2.2.2.2.2.2) _ (fun kk => by kernel_rfl) h
      clear h
      rintro next_nx24 nx24 hnx24 ⟨v16, v17, v18, v19, v20, v21, v22, v23⟩ r h
      try dsimp only at h
      conv => lhs; whnf
      cases hb25 : (decide (v16 > 0))
      · replace h := ifF h (decF hb25); conv => lhs; whnf
        obtain ⟨y30, h_y30, h⟩ := callK_inv h
        rw [cl_eq hcl (L_spec_l00Src_one 10 v17 h_y30)]
        rotate_left
        · show _ = _; kernel_rfl
        · show _ = _; kernel_rfl
        conv => lhs; whnf
        cases hb31 : y30.1
        · replace h := ifF h (booF hb31); conv => lhs; whnf
          obtain rfl := Option.some.inj h; show _ = _; kernel_rfl
        · replace h := ifT h hb31; conv => lhs; whnf
          obtain ⟨y32, h_y32, h⟩ := callK_inv h
          rw [cl_eq hcl (L_spec_l00Src_pick 4 y30.2 h_y32)]
          rotate_left
          · show _ = _; kernel_rfl
          · show _ = _; kernel_rfl
          conv => lhs; whnf
          cases hb33 : (y32.1 == 0)
          · replace h := ifF h (beqF hb33); conv => lhs; whnf
            cases hb35 : (y32.1 == 1)
            · replace h := ifF h (beqF hb35); conv => lhs; whnf
              cases hb37 : (y32.1 == 2)
              · replace h := ifF h (beqF hb37); conv => lhs; whnf
                cases hb43 : (y32.1 == 3)
                · replace h := ifF h (beqF hb43); conv => lhs; whnf
                  obtain rfl := Option.some.inj h; show _ = _; kernel_rfl
                · replace h := ifT h (beqT hb43); conv => lhs; whnf
                  obtain ⟨y44, h_y44, h⟩ := callK_inv h
                  rw [cl_eq hcl (L_spec_l00Src_among' y32.2 ([1, 3, 4] : List Int) h_y44)]
                  rotate_left
                  · show _ = _; kernel_rfl
                  · show _ = _; kernel_rfl
                  conv => lhs; whnf
                  obtain rfl := Option.some.inj h; show _ = _; kernel_rfl
              · replace h := ifT h (beqT hb37); conv => lhs; whnf
                try rw [len_of (l := v23) (r := rI)]
                cases hb38 : (decide ((v23.length : Int) > 0))
                · replace h := ifF h (decF hb38); conv => lhs; whnf
                  obtain rfl := Option.some.inj h; show _ = _; kernel_rfl
                · replace h := ifT h (decT hb38); conv => lhs; whnf
                  try rw [len_of (l := v23) (r := rI)]
                  obtain ⟨y39, h_y39, h⟩ := callK_inv h
                  rw [cl_eq hcl (L_spec_l00Src_pick (v23.length : Int) y32.2 h_y39)]
                  rotate_left
                  · show _ = _; kernel_rfl
                  · show _ = _; kernel_rfl
                  conv => lhs; whnf
                  obtain ⟨y40, h_y40, h⟩ := callK_inv h
                  rw [cl_eq hcl (L_spec_l07Count y1.1 h_y40)]
                  rotate_left
                  · show _ = _; kernel_rfl
                  · show _ = _; kernel_rfl
                  conv => lhs; whnf
                  obtain ⟨y41, h_y41, h⟩ := callK_inv h
                  rw [cl_eq hcl (L_spec_l00Src_pick y40 y39.2 h_y41)]
                  rotate_left
                  · show _ = _; kernel_rfl
                  · show _ = _; kernel_rfl
                  conv => lhs; whnf
                  obtain ⟨x42, hq_x42, hx_x42', h⟩ := getK_inv h
                  have hx_x42 := get_of (r := rI) hx_x42'
                  try (rw [decide_eq_true hq_x42]; conv => lhs; whnf)
                  rw [hx_x42]
                  conv => lhs; whnf
                  rw [hx_x42]
                  conv => lhs; whnf
                  first | (rw [map_set_of (r := rI) (l := v23) (x := y41.1) ?hh]; case hh => exact rfl) | skip
                  obtain rfl := Option.some.inj h; show _ = _; kernel_rfl
            · replace h := ifT h (beqT hb35); conv => lhs; whnf
              obtain ⟨y36, h_y36, h⟩ := callK_inv h
              rw [cl_eq hcl (L_spec_l00Src_among' y32.2 ([(-1), 0, 50] : List Int) h_y36)]
              rotate_left
              · show _ = _; kernel_rfl
              · show _ = _; kernel_rfl
              conv => lhs; whnf
              obtain ⟨hg76, h⟩ := grd_inv h
              rw [app_eq hg76 ?h1 ?h2]
              case h1 => first | exact rfl | (simp only [List.length_map, List.length_cons, List.length_nil]; done) | (rw [List.length_map]; rfl)
              case h2 => exact rfl
              conv => lhs; whnf
              first | (rw [map_app_of (r := rI) (l := v22) (m := ([y36.1] : List Int)) ?hh]; case hh => exact rfl) | skip
              obtain rfl := Option.some.inj h; show _ = _; kernel_rfl
          · replace h := ifT h (beqT hb33); conv => lhs; whnf
            obtain ⟨y34, h_y34, h⟩ := callK_inv h
            rw [cl_eq hcl (L_spec_l00Src_among' y32.2 ([0, (IntKind.i64.wrap (v19 - 1)), 4, 5] : List Int) h_y34)]
            rotate_left
            · show _ = _; kernel_rfl
            · show _ = _; kernel_rfl
            conv => lhs; whnf
            obtain rfl := Option.some.inj h; show _ = _; kernel_rfl
      · replace h := ifT h (decT hb25); conv => lhs; whnf
        obtain ⟨y26, h_y26, h⟩ := callK_inv h
        rw [cl_eq hcl (L_spec_l07Count y1.1 h_y26)]
        rotate_left
        · show _ = _; kernel_rfl
        · show _ = _; kernel_rfl
        conv => lhs; whnf
        obtain ⟨y27, h_y27, h⟩ := callK_inv h
        rw [cl_eq hcl (L_spec_l00Src_pick y26 v17 h_y27)]
        rotate_left
        · show _ = _; kernel_rfl
        · show _ = _; kernel_rfl
        conv => lhs; whnf
        obtain ⟨y28, h_y28, h⟩ := callK_inv h
        rw [cl_eq hcl (L_spec_RetireBlock v18 v19 v20 v21 y27.1 v22 v23 h_y28)]
        rotate_left
        · show _ = _; kernel_rfl
        · show _ = _; kernel_rfl
        conv => lhs; whnf
        cases hb29 : (y28.2.2.2.2.1 == 0)
        · replace h := ifF h (beqF hb29); conv => lhs; whnf
          exact hnx24 _ _ _ _ (fun kk => by kernel_rfl) h
        · replace h := ifT h (beqT hb29); conv => lhs; whnf
          exact hnx24 _ _ _ _ (fun kk => by kernel_rfl) h
  · replace h := ifT h (decT hb7); conv => lhs; whnf
    obtain ⟨y8, h_y8, h⟩ := callK_inv h
    rw [cl_eq hcl (L_spec_l00Src_one 9 v3 h_y8)]
    rotate_left
    · show _ = _; kernel_rfl
    · show _ = _; kernel_rfl
    conv => lhs; whnf
    cases hb9 : y8.1
    · replace h := ifF h (booF hb9); conv => lhs; whnf
      exact hnx5 _ _ _ _ (fun kk => by kernel_rfl) h
    · replace h := ifT h hb9; conv => lhs; whnf
      obtain ⟨hg77, h⟩ := grd_inv h
      rw [app_eq hg77 ?h1 ?h2]
      case h1 => first | exact rfl | (simp only [List.length_map, List.length_cons, List.length_nil]; done) | (rw [List.length_map]; rfl)
      case h2 => exact rfl
      conv => lhs; whnf
      first | (rw [map_app_of (r := rI) (l := v4) (m := ([v2] : List Int)) ?hh]; case hh => exact rfl) | skip
      exact hnx5 _ _ _ _ (fun kk => by kernel_rfl) h

noncomputable def p_spec_l07Block (a_0 : BadTable) (a_1 : Sl00Src) : Option (Int × Sl00Src) :=
  callK (p_spec_l00Src_one 10 a_1) fun y1 =>
  if y1.1 = true then
    callK (p_spec_l07Count a_0.Geo) fun y3 =>
    callK (p_spec_l00Src_among' y1.2 ([(-1), y3, 1099511627776] : List Int)) fun y4 =>
    some (y4.1, y4.2)
  else
    callK (p_spec_l07Count a_0.Geo) fun y5 =>
    callK (p_spec_l00Src_pick y5 y1.2) fun y6 =>
    some (y6.1, y6.2)

set_option maxHeartbeats 4000000 in
theorem L_spec_l07Block (a_0 : BadTable) (a_1 : Sl00Src) {r : (Int × Sl00Src)} (h : p_spec_l07Block a_0 a_1 = some r) : callL E 107 [.bp 0 0, .agg [IN a_0.Geo.Dies, IN a_0.Geo.Blocks, IN a_0.Geo.Pages, IN a_0.Spare, .d (.arr (a_0.Bad.map rI)), .d (.arr (a_0.Remap.map rI))]] ([some (.box [.d (.arr (a_1.Code.map rU)), IN a_1.At, .d (.lit (.int .u64 a_1.Seed))])] : Fo) = some (IN r.1, ([some (.box [.d (.arr (r.2.Code.map rU)), IN r.2.At, .d (.lit (.int .u64 r.2.Seed))])] : Fo)) := by
  unfold p_spec_l07Block at h
  refine callW (fu := Try.f107) rfl rfl rfl NN ?_
  intro lp cl hlp hcl
  conv => lhs; whnf
  obtain ⟨y1, h_y1, h⟩ := callK_inv h
  rw [cl_eq hcl (L_spec_l00Src_one 10 a_1 h_y1)]
  rotate_left
  · show _ = _; kernel_rfl
  · show _ = _; kernel_rfl
  conv => lhs; whnf
  cases hb2 : y1.1
  · replace h := ifF h (booF hb2); conv => lhs; whnf
    obtain ⟨y5, h_y5, h⟩ := callK_inv h
    rw [cl_eq hcl (L_spec_l07Count a_0.Geo h_y5)]
    rotate_left
    · show _ = _; kernel_rfl
    · show _ = _; kernel_rfl
    conv => lhs; whnf
    obtain ⟨y6, h_y6, h⟩ := callK_inv h
    rw [cl_eq hcl (L_spec_l00Src_pick y5 y1.2 h_y6)]
    rotate_left
    · show _ = _; kernel_rfl
    · show _ = _; kernel_rfl
    conv => lhs; whnf
    obtain rfl := Option.some.inj h; show _ = _; kernel_rfl
  · replace h := ifT h hb2; conv => lhs; whnf
    obtain ⟨y3, h_y3, h⟩ := callK_inv h
    rw [cl_eq hcl (L_spec_l07Count a_0.Geo h_y3)]
    rotate_left
    · show _ = _; kernel_rfl
    · show _ = _; kernel_rfl
    conv => lhs; whnf
    obtain ⟨y4, h_y4, h⟩ := callK_inv h
    rw [cl_eq hcl (L_spec_l00Src_among' y1.2 ([(-1), y3, 1099511627776] : List Int) h_y4)]
    rotate_left
    · show _ = _; kernel_rfl
    · show _ = _; kernel_rfl
    conv => lhs; whnf
    obtain rfl := Option.some.inj h; show _ = _; kernel_rfl

noncomputable def p_spec_DrawRetireBlock (a_0 : List Int) : Option (BadTable × Int) :=
  callK (p_spec_l00From a_0) fun y1 =>
  callK (p_spec_l07Draw y1) fun y2 =>
  callK (p_spec_l07Block y2.1 y2.2) fun y3 =>
  some (y2.1, y3.1)

set_option maxHeartbeats 4000000 in
theorem L_spec_DrawRetireBlock (a_0 : List Int) {r : (BadTable × Int)} (h : p_spec_DrawRetireBlock a_0 = some r) : callL E 24 [.d (.arr (a_0.map rU))] ([] : Fo) = some (.tup [.agg [IN r.1.Geo.Dies, IN r.1.Geo.Blocks, IN r.1.Geo.Pages, IN r.1.Spare, .d (.arr (r.1.Bad.map rI)), .d (.arr (r.1.Remap.map rI))], IN r.2], ([] : Fo)) := by
  unfold p_spec_DrawRetireBlock at h
  refine callW (fu := Try.f24) rfl rfl rfl NN ?_
  intro lp cl hlp hcl
  conv => lhs; whnf
  obtain ⟨y1, h_y1, h⟩ := callK_inv h
  rw [cl_eq hcl (L_spec_l00From a_0 h_y1)]
  rotate_left
  · show _ = _; kernel_rfl
  · show _ = _; kernel_rfl
  conv => lhs; whnf
  obtain ⟨y2, h_y2, h⟩ := callK_inv h
  rw [cl_eq hcl (L_spec_l07Draw y1 h_y2)]
  rotate_left
  · show _ = _; kernel_rfl
  · show _ = _; kernel_rfl
  conv => lhs; whnf
  obtain ⟨y3, h_y3, h⟩ := callK_inv h
  rw [cl_eq hcl (L_spec_l07Block y2.1 y2.2 h_y3)]
  rotate_left
  · show _ = _; kernel_rfl
  · show _ = _; kernel_rfl
  conv => lhs; whnf
  obtain rfl := Option.some.inj h; show _ = _; kernel_rfl

noncomputable def p_impl_ValidGeometry (a_0 : Geometry) : Option Bool :=
  if (inR a_0.Dies 2 3) = true then
    if (inR a_0.Blocks 4 12) = true then
      if a_0.Pages = 8 then
        some true
      else
        some (a_0.Pages == 16)
    else
      some false
  else
    some false

set_option maxHeartbeats 4000000 in
theorem L_impl_ValidGeometry (a_0 : Geometry) {r : Bool} (h : p_impl_ValidGeometry a_0 = some r) : callL E 207 [.agg [IN a_0.Dies, IN a_0.Blocks, IN a_0.Pages]] ([] : Fo) = some (BO r, ([] : Fo)) := by
  unfold p_impl_ValidGeometry at h
  refine callW (fu := Try.f207) rfl rfl rfl NN ?_
  intro lp cl hlp hcl
  conv => lhs; whnf
  rw [cl_eq hcl (L_impl_within a_0.Dies 2 3 (pl_within a_0.Dies 2 3))]
  rotate_left
  · show _ = _; kernel_rfl
  · show _ = _; kernel_rfl
  conv => lhs; whnf
  cases hb1 : (inR a_0.Dies 2 3)
  · replace h := ifF h (booF hb1); conv => lhs; whnf
    try (rw [hb1]; conv => lhs; whnf)
    try (rw [hb1]; conv => lhs; whnf)
    try (rw [hb1]; conv => lhs; whnf)
    obtain rfl := Option.some.inj h; show _ = _; kernel_rfl
  · replace h := ifT h hb1; conv => lhs; whnf
    try (rw [hb1]; conv => lhs; whnf)
    try (rw [hb1]; conv => lhs; whnf)
    rw [cl_eq hcl (L_impl_within a_0.Blocks 4 12 (pl_within a_0.Blocks 4 12))]
    rotate_left
    · show _ = _; kernel_rfl
    · show _ = _; kernel_rfl
    conv => lhs; whnf
    try (rw [hb1]; conv => lhs; whnf)
    cases hb2 : (inR a_0.Blocks 4 12)
    · replace h := ifF h (booF hb2); conv => lhs; whnf
      try (rw [hb2]; conv => lhs; whnf)
      try (rw [hb2]; conv => lhs; whnf)
      try (rw [hb2]; conv => lhs; whnf)
      try (rw [hb2]; conv => lhs; whnf)
      try (rw [hb2]; conv => lhs; whnf)
      obtain rfl := Option.some.inj h; show _ = _; kernel_rfl
    · replace h := ifT h hb2; conv => lhs; whnf
      try (rw [hb2]; conv => lhs; whnf)
      try (rw [hb2]; conv => lhs; whnf)
      try (rw [hb2]; conv => lhs; whnf)
      cases hb3 : (a_0.Pages == 8)
      · replace h := ifF h (beqF hb3); conv => lhs; whnf
        try (rw [hb3]; conv => lhs; whnf)
        try (rw [hb3]; conv => lhs; whnf)
        try (rw [hb2]; conv => lhs; whnf)
        try (rw [hb3]; conv => lhs; whnf)
        try (rw [hb2]; conv => lhs; whnf)
        obtain rfl := Option.some.inj h; show _ = _; kernel_rfl
      · replace h := ifT h (beqT hb3); conv => lhs; whnf
        try (rw [hb3]; conv => lhs; whnf)
        try (rw [hb3]; conv => lhs; whnf)
        try (rw [hb2]; conv => lhs; whnf)
        try (rw [hb3]; conv => lhs; whnf)
        try (rw [hb2]; conv => lhs; whnf)
        obtain rfl := Option.some.inj h; show _ = _; kernel_rfl

noncomputable def p_impl_spareOk (a_0 : Geometry) (a_1 : Int) : Option Bool :=
  if (inR a_1 1 4) = true then
    some (decide (a_1 < (IntKind.i64.wrap (a_0.Blocks - 1))))
  else
    some false

set_option maxHeartbeats 4000000 in
theorem L_impl_spareOk (a_0 : Geometry) (a_1 : Int) {r : Bool} (h : p_impl_spareOk a_0 a_1 = some r) : callL E 208 [.agg [IN a_0.Dies, IN a_0.Blocks, IN a_0.Pages], IN a_1] ([] : Fo) = some (BO r, ([] : Fo)) := by
  unfold p_impl_spareOk at h
  refine callW (fu := Try.f208) rfl rfl rfl NN ?_
  intro lp cl hlp hcl
  conv => lhs; whnf
  rw [cl_eq hcl (L_impl_within a_1 1 4 (pl_within a_1 1 4))]
  rotate_left
  · show _ = _; kernel_rfl
  · show _ = _; kernel_rfl
  conv => lhs; whnf
  cases hb1 : (inR a_1 1 4)
  · replace h := ifF h (booF hb1); conv => lhs; whnf
    try (rw [hb1]; conv => lhs; whnf)
    try (rw [hb1]; conv => lhs; whnf)
    try (rw [hb1]; conv => lhs; whnf)
    try (rw [hb1]; conv => lhs; whnf)
    try (rw [hb1]; conv => lhs; whnf)
    obtain rfl := Option.some.inj h; show _ = _; kernel_rfl
  · replace h := ifT h hb1; conv => lhs; whnf
    try (rw [hb1]; conv => lhs; whnf)
    try (rw [hb1]; conv => lhs; whnf)
    try (rw [hb1]; conv => lhs; whnf)
    try (rw [hb1]; conv => lhs; whnf)
    try (rw [hb1]; conv => lhs; whnf)
    obtain rfl := Option.some.inj h; show _ = _; kernel_rfl

noncomputable def p_impl_increasing (a_0 : List Int) : Option Bool :=
  iterK (fun (v1 : Int) (nx2 : Int → Option _) =>
    if v1 < (a_0.length : Int) then
      getK a_0 v1 fun x4 =>
      getK a_0 (IntKind.i64.wrap (v1 - 1)) fun x5 =>
      if x4 ≤ x5 then
        some false
      else
        nx2 (IntKind.i64.wrap (v1 + 1))
    else
      some true) NN 1

set_option maxHeartbeats 4000000 in
theorem L_impl_increasing (a_0 : List Int) {r : Bool} (h : p_impl_increasing a_0 = some r) : callL E 200 [.d (.arr (a_0.map rI))] ([] : Fo) = some (BO r, ([] : Fo)) := by
  unfold p_impl_increasing at h
  refine callW (fu := Try.f200) rfl rfl rfl NN ?_
  intro lp cl hlp hcl
  conv => lhs; whnf
  refine loop_iter hlp (fun (v1 : Int) => ([.d (.arr (a_0.map rI)), .dead, .dead, IN v1] ++ List.replicate 16 .dead : List V)) (fun (v1 : Int) => ([] : Fo)) (fun (r : Bool) => ((BO r : V), ([] : Fo))) ?_ 1 _ (fun kk => by kernel_rfl) h
  clear h
  rintro next_nx2 nx2 hnx2 v1 r h
  try dsimp only at h
  conv => lhs; whnf
  try rw [len_of (l := a_0) (r := rI)]
  cases hb3 : (decide (v1 < (a_0.length : Int)))
  · replace h := ifF h (decF hb3); conv => lhs; whnf
    obtain rfl := Option.some.inj h; show _ = _; kernel_rfl
  · replace h := ifT h (decT hb3); conv => lhs; whnf
    obtain ⟨x4, hq_x4, hx_x4', h⟩ := getK_inv h
    have hx_x4 := get_of (r := rI) hx_x4'
    try (rw [decide_eq_true hq_x4]; conv => lhs; whnf)
    rw [hx_x4]
    conv => lhs; whnf
    rw [hx_x4]
    conv => lhs; whnf
    obtain ⟨x5, hq_x5, hx_x5', h⟩ := getK_inv h
    have hx_x5 := get_of (r := rI) hx_x5'
    try (rw [decide_eq_true hq_x5]; conv => lhs; whnf)
    rw [hx_x5]
    conv => lhs; whnf
    rw [hx_x5]
    conv => lhs; whnf
    cases hb6 : (decide (x4 ≤ x5))
    · replace h := ifF h (decF hb6); conv => lhs; whnf
      exact hnx2 _ _ _ _ (fun kk => by kernel_rfl) h
    · replace h := ifT h (decT hb6); conv => lhs; whnf
      obtain rfl := Option.some.inj h; show _ = _; kernel_rfl

noncomputable def p_impl_Geometry_all (a_0 : Geometry) : Option Int :=
  some (IntKind.i64.wrap (a_0.Dies * a_0.Blocks))

set_option maxHeartbeats 4000000 in
theorem L_impl_Geometry_all (a_0 : Geometry) {r : Int} (h : p_impl_Geometry_all a_0 = some r) : callL E 110 [.agg [IN a_0.Dies, IN a_0.Blocks, IN a_0.Pages]] ([] : Fo) = some (IN r, ([] : Fo)) := by
  unfold p_impl_Geometry_all at h
  refine callW (fu := Try.f110) rfl rfl rfl NN ?_
  intro lp cl hlp hcl
  conv => lhs; whnf
  obtain rfl := Option.some.inj h; show _ = _; kernel_rfl

noncomputable def p_impl_allWithin_c1 (a_0 : Int) (a_1 : Int) (a_2 : Int) : Option Bool :=
  some (!(inR a_0 a_1 a_2))

set_option maxHeartbeats 4000000 in
theorem L_impl_allWithin_c1 (a_0 : Int) (a_1 : Int) (a_2 : Int) {r : Bool} (h : p_impl_allWithin_c1 a_0 a_1 a_2 = some r) : callL E 293 [IN a_0, .bp 0 0, .bp 1 0] ([some (.box [IN a_1]), some (.box [IN a_2])] : Fo) = some (BO r, ([some (.box [IN a_1]), some (.box [IN a_2])] : Fo)) := by
  unfold p_impl_allWithin_c1 at h
  refine callW (fu := Try.f293) rfl rfl rfl NN ?_
  intro lp cl hlp hcl
  conv => lhs; whnf
  rw [cl_eq hcl (L_impl_within a_0 a_1 a_2 (pl_within a_0 a_1 a_2))]
  rotate_left
  · show _ = _; kernel_rfl
  · show _ = _; kernel_rfl
  conv => lhs; whnf
  obtain rfl := Option.some.inj h; show _ = _; kernel_rfl

noncomputable def p_slices_IndexFunc_impl_allWithin_c1 (a_0 : List Int) (a_1 : Int) (a_2 : Int) : Option Int :=
  grd (a_0.length < 4611686018427387904) <|
  forK a_0 (fun (i6 : Nat) x8 (_ : Unit) (nx7 : Unit → Option _) =>
    callK (p_impl_allWithin_c1 x8 a_1 a_2) fun y9 =>
    if y9 = true then
      some (i6 : Int)
    else
      nx7 ()) () (fun (_ : Unit) =>
    some (-1))

set_option maxHeartbeats 4000000 in
theorem L_slices_IndexFunc_impl_allWithin_c1 (a_0 : List Int) (a_1 : Int) (a_2 : Int) {r : Int} (h : p_slices_IndexFunc_impl_allWithin_c1 a_0 a_1 a_2 = some r) : callL E 303 [.d (.arr (a_0.map rI)), .clo 293 [.bp 0 0, .bp 1 0]] ([some (.box [IN a_1]), some (.box [IN a_2])] : Fo) = some (IN r, ([some (.box [IN a_1]), some (.box [IN a_2])] : Fo)) := by
  unfold p_slices_IndexFunc_impl_allWithin_c1 at h
  refine callW (fu := Try.f303) rfl rfl rfl NN ?_
  intro lp cl hlp hcl
  conv => lhs; whnf
  try rw [len_of (l := a_0) (r := rI)]
  obtain ⟨hl_i6, h⟩ := grd_inv h
  refine loop_for hlp (l := a_0) hl_i6 (fun (i6 : Nat) (_ : Unit) => ([.d (.arr (a_0.map rI)), .clo 293 [.bp 0 0, .bp 1 0], .dead, .dead, .dead, .dead, .dead, IN (a_0.length : Int), IN (i6 : Int)] ++ List.replicate 10 .dead : List V)) (fun (i6 : Nat) (_ : Unit) => ([some (.box [IN a_1]), some (.box [IN a_2])] : Fo)) (fun (r : Int) => ((IN r : V), ([some (.box [IN a_1]), some (.box [IN a_2])] : Fo))) ?_ ?_ () _ (fun kk => by kernel_rfl) h
  · clear h
    rintro next_nx7 nx7 i6 hi_i6 hnx7 ⟨⟩ r h
    try dsimp only at h
    have hn_i6 : i6 < 4611686018427387904 := by omega
    have hx_x8 := get_map rI a_0 i6 hi_i6
    generalize a_0[i6] = x8 at h hx_x8
    have hd_i6 : (decide ((i6 : Int) < (a_0.length : Int))) = true := decide_eq_true (by omega)
    conv => lhs; whnf
    rw [hd_i6]
    conv => lhs; whnf
    try (rw [decide_eq_true hq_x8]; conv => lhs; whnf)
    rw [hx_x8]
    conv => lhs; whnf
    rw [hx_x8]
    conv => lhs; whnf
    obtain ⟨y9, h_y9, h⟩ := callK_inv h
    rw [cl_eq hcl (L_impl_allWithin_c1 x8 a_1 a_2 h_y9)]
    rotate_left
    · show _ = _; kernel_rfl
    · show _ = _; kernel_rfl
    conv => lhs; whnf
    cases hb10 : y9
    · replace h := ifF h (booF hb10); conv => lhs; whnf
      rw [wrap_nat i6 (by have := hn_i6; omega)]
      exact hnx7 _ _ _ _ (fun kk => by kernel_rfl) h
    · replace h := ifT h hb10; conv => lhs; whnf
      obtain rfl := Option.some.inj h; show _ = _; kernel_rfl
  · clear h
    rintro next_nx7 ⟨⟩ r h
    try dsimp only at h
    have hd_i6 : (decide ((a_0.length : Int) < (a_0.length : Int))) = false := decide_eq_false (by omega)
    conv => lhs; whnf
    rw [hd_i6]
    conv => lhs; whnf
    obtain rfl := Option.some.inj h; show _ = _; kernel_rfl

noncomputable def p_slices_ContainsFunc_impl_allWithin_c1 (a_0 : List Int) (a_1 : Int) (a_2 : Int) : Option Bool :=
  callK (p_slices_IndexFunc_impl_allWithin_c1 a_0 a_1 a_2) fun y1 =>
  some (decide (y1 ≥ 0))

set_option maxHeartbeats 4000000 in
theorem L_slices_ContainsFunc_impl_allWithin_c1 (a_0 : List Int) (a_1 : Int) (a_2 : Int) {r : Bool} (h : p_slices_ContainsFunc_impl_allWithin_c1 a_0 a_1 a_2 = some r) : callL E 292 [.d (.arr (a_0.map rI)), .clo 293 [.bp 0 0, .bp 1 0]] ([some (.box [IN a_1]), some (.box [IN a_2])] : Fo) = some (BO r, ([some (.box [IN a_1]), some (.box [IN a_2])] : Fo)) := by
  unfold p_slices_ContainsFunc_impl_allWithin_c1 at h
  refine callW (fu := Try.f292) rfl rfl rfl NN ?_
  intro lp cl hlp hcl
  conv => lhs; whnf
  obtain ⟨y1, h_y1, h⟩ := callK_inv h
  rw [cl_eq hcl (L_slices_IndexFunc_impl_allWithin_c1 a_0 a_1 a_2 h_y1)]
  rotate_left
  · show _ = _; kernel_rfl
  · show _ = _; kernel_rfl
  conv => lhs; whnf
  obtain rfl := Option.some.inj h; show _ = _; kernel_rfl

noncomputable def p_impl_allWithin (a_0 : List Int) (a_1 : Int) (a_2 : Int) : Option Bool :=
  callK (p_slices_ContainsFunc_impl_allWithin_c1 a_0 a_1 a_2) fun y1 =>
  some (!y1)

set_option maxHeartbeats 4000000 in
theorem L_impl_allWithin (a_0 : List Int) (a_1 : Int) (a_2 : Int) {r : Bool} (h : p_impl_allWithin a_0 a_1 a_2 = some r) : callL E 201 [.d (.arr (a_0.map rI)), IN a_1, IN a_2] ([] : Fo) = some (BO r, ([] : Fo)) := by
  unfold p_impl_allWithin at h
  refine callW (fu := Try.f201) rfl rfl rfl NN ?_
  intro lp cl hlp hcl
  conv => lhs; whnf
  obtain ⟨y1, h_y1, h⟩ := callK_inv h
  rw [cl_eq hcl (L_slices_ContainsFunc_impl_allWithin_c1 a_0 a_1 a_2 h_y1)]
  rotate_left
  · show _ = _; kernel_rfl
  · show _ = _; kernel_rfl
  conv => lhs; whnf
  obtain rfl := Option.some.inj h; show _ = _; kernel_rfl

noncomputable def p_impl_blocksOk (a_0 : Geometry) (a_1 : List Int) : Option Bool :=
  callK (p_impl_increasing a_1) fun y1 =>
  if y1 = true then
    callK (p_impl_Geometry_all a_0) fun y3 =>
    callK (p_impl_allWithin a_1 0 (IntKind.i64.wrap (y3 - 1))) fun y4 =>
    some y4
  else
    some false

set_option maxHeartbeats 4000000 in
theorem L_impl_blocksOk (a_0 : Geometry) (a_1 : List Int) {r : Bool} (h : p_impl_blocksOk a_0 a_1 = some r) : callL E 185 [.agg [IN a_0.Dies, IN a_0.Blocks, IN a_0.Pages], .d (.arr (a_1.map rI))] ([] : Fo) = some (BO r, ([] : Fo)) := by
  unfold p_impl_blocksOk at h
  refine callW (fu := Try.f185) rfl rfl rfl NN ?_
  intro lp cl hlp hcl
  conv => lhs; whnf
  obtain ⟨y1, h_y1, h⟩ := callK_inv h
  rw [cl_eq hcl (L_impl_increasing a_1 h_y1)]
  rotate_left
  · show _ = _; kernel_rfl
  · show _ = _; kernel_rfl
  conv => lhs; whnf
  cases hb2 : y1
  · replace h := ifF h (booF hb2); conv => lhs; whnf
    try (rw [hb2]; conv => lhs; whnf)
    try (rw [hb2]; conv => lhs; whnf)
    try (rw [hb2]; conv => lhs; whnf)
    try (rw [hb2]; conv => lhs; whnf)
    try (rw [hb2]; conv => lhs; whnf)
    obtain rfl := Option.some.inj h; show _ = _; kernel_rfl
  · replace h := ifT h hb2; conv => lhs; whnf
    try (rw [hb2]; conv => lhs; whnf)
    try (rw [hb2]; conv => lhs; whnf)
    obtain ⟨y3, h_y3, h⟩ := callK_inv h
    rw [cl_eq hcl (L_impl_Geometry_all a_0 h_y3)]
    rotate_left
    · show _ = _; kernel_rfl
    · show _ = _; kernel_rfl
    conv => lhs; whnf
    try (rw [hb2]; conv => lhs; whnf)
    try (rw [hb2]; conv => lhs; whnf)
    obtain ⟨y4, h_y4, h⟩ := callK_inv h
    rw [cl_eq hcl (L_impl_allWithin a_1 0 (IntKind.i64.wrap (y3 - 1)) h_y4)]
    rotate_left
    · show _ = _; kernel_rfl
    · show _ = _; kernel_rfl
    conv => lhs; whnf
    try (rw [hb2]; conv => lhs; whnf)
    obtain rfl := Option.some.inj h; show _ = _; kernel_rfl

noncomputable def p_impl_BadTable_primary (a_0 : BadTable) : Option Int :=
  some (IntKind.i64.wrap (a_0.Geo.Blocks - a_0.Spare))

set_option maxHeartbeats 4000000 in
theorem L_impl_BadTable_primary (a_0 : BadTable) {r : Int} (h : p_impl_BadTable_primary a_0 = some r) : callL E 297 [.agg [IN a_0.Geo.Dies, IN a_0.Geo.Blocks, IN a_0.Geo.Pages, IN a_0.Spare, .d (.arr (a_0.Bad.map rI)), .d (.arr (a_0.Remap.map rI))]] ([] : Fo) = some (IN r, ([] : Fo)) := by
  unfold p_impl_BadTable_primary at h
  refine callW (fu := Try.f297) rfl rfl rfl NN ?_
  intro lp cl hlp hcl
  conv => lhs; whnf
  obtain rfl := Option.some.inj h; show _ = _; kernel_rfl

noncomputable def p_impl_BadTable_logical (a_0 : BadTable) : Option Int :=
  callK (p_impl_BadTable_primary a_0) fun y1 =>
  some (IntKind.i64.wrap (a_0.Geo.Dies * y1))

set_option maxHeartbeats 4000000 in
theorem L_impl_BadTable_logical (a_0 : BadTable) {r : Int} (h : p_impl_BadTable_logical a_0 = some r) : callL E 209 [.agg [IN a_0.Geo.Dies, IN a_0.Geo.Blocks, IN a_0.Geo.Pages, IN a_0.Spare, .d (.arr (a_0.Bad.map rI)), .d (.arr (a_0.Remap.map rI))]] ([] : Fo) = some (IN r, ([] : Fo)) := by
  unfold p_impl_BadTable_logical at h
  refine callW (fu := Try.f209) rfl rfl rfl NN ?_
  intro lp cl hlp hcl
  conv => lhs; whnf
  obtain ⟨y1, h_y1, h⟩ := callK_inv h
  rw [cl_eq hcl (L_impl_BadTable_primary a_0 h_y1)]
  rotate_left
  · show _ = _; kernel_rfl
  · show _ = _; kernel_rfl
  conv => lhs; whnf
  obtain rfl := Option.some.inj h; show _ = _; kernel_rfl

noncomputable def p_impl_BadTable_home (a_0 : BadTable) (a_1 : Int) : Option Int :=
  callK (p_impl_BadTable_primary a_0) fun y1 =>
  grd (y1 ≠ 0) <|
  callK (p_impl_BadTable_primary a_0) fun y2 =>
  grd (y2 ≠ 0) <|
  some (IntKind.i64.wrap ((IntKind.i64.wrap ((IntKind.i64.wrap (Int.tdiv a_1 y1)) * a_0.Geo.Blocks)) + (Int.tmod a_1 y2)))

set_option maxHeartbeats 4000000 in
theorem L_impl_BadTable_home (a_0 : BadTable) (a_1 : Int) {r : Int} (h : p_impl_BadTable_home a_0 a_1 = some r) : callL E 298 [.agg [IN a_0.Geo.Dies, IN a_0.Geo.Blocks, IN a_0.Geo.Pages, IN a_0.Spare, .d (.arr (a_0.Bad.map rI)), .d (.arr (a_0.Remap.map rI))], IN a_1] ([] : Fo) = some (IN r, ([] : Fo)) := by
  unfold p_impl_BadTable_home at h
  refine callW (fu := Try.f298) rfl rfl rfl NN ?_
  intro lp cl hlp hcl
  conv => lhs; whnf
  obtain ⟨y1, h_y1, h⟩ := callK_inv h
  rw [cl_eq hcl (L_impl_BadTable_primary a_0 h_y1)]
  rotate_left
  · show _ = _; kernel_rfl
  · show _ = _; kernel_rfl
  conv => lhs; whnf
  obtain ⟨hg3, h⟩ := grd_inv h
  rw [quo_run _ _ _ _ hg3]
  conv => lhs; whnf
  obtain ⟨y2, h_y2, h⟩ := callK_inv h
  rw [cl_eq hcl (L_impl_BadTable_primary a_0 h_y2)]
  rotate_left
  · show _ = _; kernel_rfl
  · show _ = _; kernel_rfl
  conv => lhs; whnf
  obtain ⟨hg4, h⟩ := grd_inv h
  rw [rem_run _ _ _ _ hg4]
  conv => lhs; whnf
  obtain rfl := Option.some.inj h; show _ = _; kernel_rfl

noncomputable def p_slices_Index (a_0 : List Int) (a_1 : Int) : Option Int :=
  grd (a_0.length < 4611686018427387904) <|
  forK a_0 (fun (i5 : Nat) x7 (_ : Unit) (nx6 : Unit → Option _) =>
    if a_1 = x7 then
      some (i5 : Int)
    else
      nx6 ()) () (fun (_ : Unit) =>
    some (-1))

set_option maxHeartbeats 4000000 in
theorem L_slices_Index (a_0 : List Int) (a_1 : Int) {r : Int} (h : p_slices_Index a_0 a_1 = some r) : callL E 214 [.d (.arr (a_0.map rI)), IN a_1] ([] : Fo) = some (IN r, ([] : Fo)) := by
  unfold p_slices_Index at h
  refine callW (fu := Try.f214) rfl rfl rfl NN ?_
  intro lp cl hlp hcl
  conv => lhs; whnf
  try rw [len_of (l := a_0) (r := rI)]
  obtain ⟨hl_i5, h⟩ := grd_inv h
  refine loop_for hlp (l := a_0) hl_i5 (fun (i5 : Nat) (_ : Unit) => ([.d (.arr (a_0.map rI)), IN a_1, .dead, .dead, .dead, .dead, .dead, IN (a_0.length : Int), IN (i5 : Int)] ++ List.replicate 10 .dead : List V)) (fun (i5 : Nat) (_ : Unit) => ([] : Fo)) (fun (r : Int) => ((IN r : V), ([] : Fo))) ?_ ?_ () _ (fun kk => by kernel_rfl) h
  · clear h
    rintro next_nx6 nx6 i5 hi_i5 hnx6 ⟨⟩ r h
    try dsimp only at h
    have hn_i5 : i5 < 4611686018427387904 := by omega
    have hx_x7 := get_map rI a_0 i5 hi_i5
    generalize a_0[i5] = x7 at h hx_x7
    have hd_i5 : (decide ((i5 : Int) < (a_0.length : Int))) = true := decide_eq_true (by omega)
    conv => lhs; whnf
    rw [hd_i5]
    conv => lhs; whnf
    try (rw [decide_eq_true hq_x7]; conv => lhs; whnf)
    rw [hx_x7]
    conv => lhs; whnf
    rw [hx_x7]
    conv => lhs; whnf
    cases hb8 : (a_1 == x7)
    · replace h := ifF h (beqF hb8); conv => lhs; whnf
      rw [wrap_nat i5 (by have := hn_i5; omega)]
      exact hnx6 _ _ _ _ (fun kk => by kernel_rfl) h
    · replace h := ifT h (beqT hb8); conv => lhs; whnf
      obtain rfl := Option.some.inj h; show _ = _; kernel_rfl
  · clear h
    rintro next_nx6 ⟨⟩ r h
    try dsimp only at h
    have hd_i5 : (decide ((a_0.length : Int) < (a_0.length : Int))) = false := decide_eq_false (by omega)
    conv => lhs; whnf
    rw [hd_i5]
    conv => lhs; whnf
    obtain rfl := Option.some.inj h; show _ = _; kernel_rfl

noncomputable def p_slices_Contains (a_0 : List Int) (a_1 : Int) : Option Bool :=
  callK (p_slices_Index a_0 a_1) fun y1 =>
  some (decide (y1 ≥ 0))

set_option maxHeartbeats 4000000 in
theorem L_slices_Contains (a_0 : List Int) (a_1 : Int) {r : Bool} (h : p_slices_Contains a_0 a_1 = some r) : callL E 211 [.d (.arr (a_0.map rI)), IN a_1] ([] : Fo) = some (BO r, ([] : Fo)) := by
  unfold p_slices_Contains at h
  refine callW (fu := Try.f211) rfl rfl rfl NN ?_
  intro lp cl hlp hcl
  conv => lhs; whnf
  obtain ⟨y1, h_y1, h⟩ := callK_inv h
  rw [cl_eq hcl (L_slices_Index a_0 a_1 h_y1)]
  rotate_left
  · show _ = _; kernel_rfl
  · show _ = _; kernel_rfl
  conv => lhs; whnf
  obtain rfl := Option.some.inj h; show _ = _; kernel_rfl

noncomputable def p_impl_BadTable_isBad (a_0 : BadTable) (a_1 : Int) : Option Bool :=
  callK (p_slices_Contains a_0.Bad a_1) fun y1 =>
  some y1

set_option maxHeartbeats 4000000 in
theorem L_impl_BadTable_isBad (a_0 : BadTable) (a_1 : Int) {r : Bool} (h : p_impl_BadTable_isBad a_0 a_1 = some r) : callL E 212 [.agg [IN a_0.Geo.Dies, IN a_0.Geo.Blocks, IN a_0.Geo.Pages, IN a_0.Spare, .d (.arr (a_0.Bad.map rI)), .d (.arr (a_0.Remap.map rI))], IN a_1] ([] : Fo) = some (BO r, ([] : Fo)) := by
  unfold p_impl_BadTable_isBad at h
  refine callW (fu := Try.f212) rfl rfl rfl NN ?_
  intro lp cl hlp hcl
  conv => lhs; whnf
  obtain ⟨y1, h_y1, h⟩ := callK_inv h
  rw [cl_eq hcl (L_slices_Contains a_0.Bad a_1 h_y1)]
  rotate_left
  · show _ = _; kernel_rfl
  · show _ = _; kernel_rfl
  conv => lhs; whnf
  obtain rfl := Option.some.inj h; show _ = _; kernel_rfl

noncomputable def p_impl_BadTable_spares (a_0 : BadTable) (a_1 : Int) : Option (List Int) :=
  callK (p_impl_BadTable_primary a_0) fun y1 =>
  iterK (fun ((v2, v3) : (Int × (List Int))) (nx4 : (Int × (List Int)) → Option _) =>
    if v2 < a_0.Geo.Blocks then
      grd (appOk (v3.length + 1) 8 = true) <|
      nx4 ((IntKind.i64.wrap (v2 + 1)), (v3 ++ ([(IntKind.i64.wrap ((IntKind.i64.wrap (a_1 * a_0.Geo.Blocks)) + v2))] : List Int)))
    else
      some v3) NN (y1, ([] : List Int))

set_option maxHeartbeats 4000000 in
theorem L_impl_BadTable_spares (a_0 : BadTable) (a_1 : Int) {r : (List Int)} (h : p_impl_BadTable_spares a_0 a_1 = some r) : callL E 221 [.agg [IN a_0.Geo.Dies, IN a_0.Geo.Blocks, IN a_0.Geo.Pages, IN a_0.Spare, .d (.arr (a_0.Bad.map rI)), .d (.arr (a_0.Remap.map rI))], IN a_1] ([] : Fo) = some (.sl 0, ([some (.arr 2 1 (r.map rI))] : Fo)) := by
  unfold p_impl_BadTable_spares at h
  refine callW (fu := Try.f221) rfl rfl rfl NN ?_
  intro lp cl hlp hcl
  conv => lhs; whnf
  obtain ⟨y1, h_y1, h⟩ := callK_inv h
  rw [cl_eq hcl (L_impl_BadTable_primary a_0 h_y1)]
  rotate_left
  · show _ = _; kernel_rfl
  · show _ = _; kernel_rfl
  conv => lhs; whnf
  refine loop_iter hlp (fun ((v2, v3) : (Int × (List Int))) => ([.dead, IN a_1, .bp 0 0, .dead, .dead, .sl 1, IN v2] ++ List.replicate 20 .dead : List V)) (fun ((v2, v3) : (Int × (List Int))) => ([some (.box [IN a_0.Geo.Dies, IN a_0.Geo.Blocks, IN a_0.Geo.Pages, IN a_0.Spare, .d (.arr (a_0.Bad.map rI)), .d (.arr (a_0.Remap.map rI))]), some (.arr 2 1 (v3.map rI))] : Fo)) (fun (r : (List Int)) => ((.sl 0 : V), ([some (.arr 2 1 (r.map rI))] : Fo))) ?_ (y1, ([] : List Int)) _ (fun kk => by kernel_rfl) h
  clear h
  rintro next_nx4 nx4 hnx4 ⟨v2, v3⟩ r h
  try dsimp only at h
  conv => lhs; whnf
  cases hb5 : (decide (v2 < a_0.Geo.Blocks))
  · replace h := ifF h (decF hb5); conv => lhs; whnf
    obtain rfl := Option.some.inj h; show _ = _; kernel_rfl
  · replace h := ifT h (decT hb5); conv => lhs; whnf
    obtain ⟨hg6, h⟩ := grd_inv h
    rw [app_eq hg6 ?h1 ?h2]
    case h1 => first | exact rfl | (simp only [List.length_map, List.length_cons, List.length_nil]; done) | (rw [List.length_map]; rfl)
    case h2 => exact rfl
    conv => lhs; whnf
    first | (rw [map_app_of (r := rI) (l := v3) (m := ([(IntKind.i64.wrap ((IntKind.i64.wrap (a_1 * a_0.Geo.Blocks)) + v2))] : List Int)) ?hh]; case hh => exact rfl) | skip
    exact hnx4 _ _ _ _ (fun kk => by kernel_rfl) h

noncomputable def p_impl_BadTable_remapOk (a_0 : BadTable) (a_1 : Int) (a_2 : Int) : Option Bool :=
  callK (p_impl_BadTable_home a_0 a_1) fun y1 =>
  if a_2 = y1 then
    callK (p_impl_BadTable_isBad a_0 a_2) fun y3 =>
    some (!y3)
  else
    callK (p_impl_BadTable_isBad a_0 a_2) fun y4 =>
    if y4 = true then
      some false
    else
      callK (p_impl_BadTable_isBad a_0 y1) fun y6 =>
      if y6 = true then
        grd (a_0.Geo.Blocks ≠ 0) <|
        callK (p_impl_BadTable_spares a_0 (IntKind.i64.wrap (Int.tdiv y1 a_0.Geo.Blocks))) fun y8 =>
        callK (p_slices_Contains y8 a_2) fun y9 =>
        some y9
      else
        some false

set_option maxHeartbeats 4000000 in
theorem L_impl_BadTable_remapOk (a_0 : BadTable) (a_1 : Int) (a_2 : Int) {r : Bool} (h : p_impl_BadTable_remapOk a_0 a_1 a_2 = some r) : callL E 210 [.agg [IN a_0.Geo.Dies, IN a_0.Geo.Blocks, IN a_0.Geo.Pages, IN a_0.Spare, .d (.arr (a_0.Bad.map rI)), .d (.arr (a_0.Remap.map rI))], IN a_1, IN a_2] ([] : Fo) = some (BO r, ([] : Fo)) := by
  unfold p_impl_BadTable_remapOk at h
  refine callW (fu := Try.f210) rfl rfl rfl NN ?_
  intro lp cl hlp hcl
  conv => lhs; whnf
  obtain ⟨y1, h_y1, h⟩ := callK_inv h
  rw [cl_eq hcl (L_impl_BadTable_home a_0 a_1 h_y1)]
  rotate_left
  · show _ = _; kernel_rfl
  · show _ = _; kernel_rfl
  conv => lhs; whnf
  cases hb2 : (a_2 == y1)
  · replace h := ifF h (beqF hb2); conv => lhs; whnf
    obtain ⟨y4, h_y4, h⟩ := callK_inv h
    rw [cl_eq hcl (L_impl_BadTable_isBad a_0 a_2 h_y4)]
    rotate_left
    · show _ = _; kernel_rfl
    · show _ = _; kernel_rfl
    conv => lhs; whnf
    cases hb5 : y4
    · replace h := ifF h (booF hb5); conv => lhs; whnf
      try (rw [hb5]; conv => lhs; whnf)
      try (rw [hb5]; conv => lhs; whnf)
      obtain ⟨y6, h_y6, h⟩ := callK_inv h
      rw [cl_eq hcl (L_impl_BadTable_isBad a_0 y1 h_y6)]
      rotate_left
      · show _ = _; kernel_rfl
      · show _ = _; kernel_rfl
      conv => lhs; whnf
      try (rw [hb5]; conv => lhs; whnf)
      cases hb7 : y6
      · replace h := ifF h (booF hb7); conv => lhs; whnf
        try (rw [hb7]; conv => lhs; whnf)
        try (rw [hb7]; conv => lhs; whnf)
        try (rw [hb7]; conv => lhs; whnf)
        try (rw [hb7]; conv => lhs; whnf)
        try (rw [hb7]; conv => lhs; whnf)
        try (rw [hb7]; conv => lhs; whnf)
        try (rw [hb7]; conv => lhs; whnf)
        try (rw [hb7]; conv => lhs; whnf)
        try (rw [hb7]; conv => lhs; whnf)
        obtain rfl := Option.some.inj h; show _ = _; kernel_rfl
      · replace h := ifT h hb7; conv => lhs; whnf
        try (rw [hb7]; conv => lhs; whnf)
        try (rw [hb7]; conv => lhs; whnf)
        try (rw [hb7]; conv => lhs; whnf)
        try (rw [hb7]; conv => lhs; whnf)
        try (rw [hb7]; conv => lhs; whnf)
        obtain ⟨hg10, h⟩ := grd_inv h
        rw [quo_run _ _ _ _ hg10]
        conv => lhs; whnf
        try (rw [hb7]; conv => lhs; whnf)
        obtain ⟨y8, h_y8, h⟩ := callK_inv h
        rw [cl_eq hcl (L_impl_BadTable_spares a_0 (IntKind.i64.wrap (Int.tdiv y1 a_0.Geo.Blocks)) h_y8)]
        rotate_left
        · show _ = _; kernel_rfl
        · show _ = _; kernel_rfl
        conv => lhs; whnf
        try (rw [hb7]; conv => lhs; whnf)
        try (rw [hb7]; conv => lhs; whnf)
        obtain ⟨y9, h_y9, h⟩ := callK_inv h
        rw [cl_eq hcl (L_slices_Contains y8 a_2 h_y9)]
        rotate_left
        · show _ = _; kernel_rfl
        · show _ = _; kernel_rfl
        conv => lhs; whnf
        try (rw [hb7]; conv => lhs; whnf)
        obtain rfl := Option.some.inj h; show _ = _; kernel_rfl
    · replace h := ifT h hb5; conv => lhs; whnf
      try (rw [hb5]; conv => lhs; whnf)
      try (rw [hb5]; conv => lhs; whnf)
      try (rw [hb5]; conv => lhs; whnf)
      obtain rfl := Option.some.inj h; show _ = _; kernel_rfl
  · replace h := ifT h (beqT hb2); conv => lhs; whnf
    obtain ⟨y3, h_y3, h⟩ := callK_inv h
    rw [cl_eq hcl (L_impl_BadTable_isBad a_0 a_2 h_y3)]
    rotate_left
    · show _ = _; kernel_rfl
    · show _ = _; kernel_rfl
    conv => lhs; whnf
    obtain rfl := Option.some.inj h; show _ = _; kernel_rfl

noncomputable def p_impl_ValidBadTable (a_0 : BadTable) : Option Bool :=
  callK (p_impl_ValidGeometry a_0.Geo) fun y1 =>
  if y1 = true then
    callK (p_impl_spareOk a_0.Geo a_0.Spare) fun y3 =>
    if y3 = true then
      callK (p_impl_blocksOk a_0.Geo a_0.Bad) fun y5 =>
      if y5 = true then
        callK (p_impl_BadTable_logical a_0) fun y7 =>
        if ¬ (a_0.Remap.length : Int) = y7 then
          some false
        else
          grd (a_0.Remap.length < 4611686018427387904) <|
          forK a_0.Remap (fun (i16 : Nat) x18 (_ : Unit) (nx17 : Unit → Option _) =>
            callK (p_impl_BadTable_remapOk a_0 (i16 : Int) x18) fun y19 =>
            if y19 = true then
              grd (0 ≤ 0 ∧ 0 ≤ (i16 : Int) ∧ (i16 : Int) ≤ (a_0.Remap.length : Int)) <|
              callK (p_slices_Contains ((a_0.Remap.drop (Int.toNat 0)).take (Int.toNat (i16 : Int) - Int.toNat 0)) x18) fun y21 =>
              if y21 = true then
                some false
              else
                nx17 ()
            else
              some false) () (fun (_ : Unit) =>
            some true)
      else
        some false
    else
      some false
  else
    some false

set_option maxHeartbeats 4000000 in
theorem L_impl_ValidBadTable (a_0 : BadTable) {r : Bool} (h : p_impl_ValidBadTable a_0 = some r) : callL E 108 [.agg [IN a_0.Geo.Dies, IN a_0.Geo.Blocks, IN a_0.Geo.Pages, IN a_0.Spare, .d (.arr (a_0.Bad.map rI)), .d (.arr (a_0.Remap.map rI))]] ([] : Fo) = some (BO r, ([] : Fo)) := by
  unfold p_impl_ValidBadTable at h
  refine callW (fu := Try.f108) rfl rfl rfl NN ?_
  intro lp cl hlp hcl
  conv => lhs; whnf
  obtain ⟨y1, h_y1, h⟩ := callK_inv h
  rw [cl_eq hcl (L_impl_ValidGeometry a_0.Geo h_y1)]
  rotate_left
  · show _ = _; kernel_rfl
  · show _ = _; kernel_rfl
  conv => lhs; whnf
  cases hb2 : y1
  · replace h := ifF h (booF hb2); conv => lhs; whnf
    try (rw [hb2]; conv => lhs; whnf)
    try (rw [hb2]; conv => lhs; whnf)
    try (rw [hb2]; conv => lhs; whnf)
    try (rw [hb2]; conv => lhs; whnf)
    try (rw [hb2]; conv => lhs; whnf)
    try (rw [hb2]; conv => lhs; whnf)
    obtain rfl := Option.some.inj h; show _ = _; kernel_rfl
  · replace h := ifT h hb2
    try rw [hb2] at h
    conv => lhs; whnf
    try (rw [hb2]; conv => lhs; whnf)
    try (rw [hb2]; conv => lhs; whnf)
    try (rw [hb2]; conv => lhs; whnf)
    try (rw [hb2]; conv => lhs; whnf)
    obtain ⟨y3, h_y3, h⟩ := callK_inv h
    rw [cl_eq hcl (L_impl_spareOk a_0.Geo a_0.Spare h_y3)]
    rotate_left
    · show _ = _; kernel_rfl
    · show _ = _; kernel_rfl
    conv => lhs; whnf
    try (rw [hb2]; conv => lhs; whnf)
    try (rw [hb2]; conv => lhs; whnf)
    cases hb4 : y3
    · replace h := ifF h (booF hb4); conv => lhs; whnf
      try (rw [hb4]; conv => lhs; whnf)
      try (rw [hb4]; conv => lhs; whnf)
      try (rw [hb4]; conv => lhs; whnf)
      try (rw [hb4]; conv => lhs; whnf)
      try (rw [hb4]; conv => lhs; whnf)
      try (rw [hb4]; conv => lhs; whnf)
      obtain rfl := Option.some.inj h; show _ = _; kernel_rfl
    · replace h := ifT h hb4; conv => lhs; whnf
      try (rw [hb4]; conv => lhs; whnf)
      try (rw [hb4]; conv => lhs; whnf)
      try (rw [hb4]; conv => lhs; whnf)
      try (rw [hb4]; conv => lhs; whnf)
      obtain ⟨y5, h_y5, h⟩ := callK_inv h
      rw [cl_eq hcl (L_impl_blocksOk a_0.Geo a_0.Bad h_y5)]
      rotate_left
      · show _ = _; kernel_rfl
      · show _ = _; kernel_rfl
      conv => lhs; whnf
      try (rw [hb4]; conv => lhs; whnf)
      try (rw [hb4]; conv => lhs; whnf)
      cases hb6 : y5
      · replace h := ifF h (booF hb6); conv => lhs; whnf
        try (rw [hb6]; conv => lhs; whnf)
        try (rw [hb6]; conv => lhs; whnf)
        try (rw [hb6]; conv => lhs; whnf)
        try (rw [hb6]; conv => lhs; whnf)
        try (rw [hb6]; conv => lhs; whnf)
        try (rw [hb6]; conv => lhs; whnf)
        obtain rfl := Option.some.inj h; show _ = _; kernel_rfl
      · replace h := ifT h hb6; conv => lhs; whnf
        try (rw [hb6]; conv => lhs; whnf)
        try (rw [hb6]; conv => lhs; whnf)
        try rw [len_of (l := a_0.Remap) (r := rI)]
        try (rw [hb6]; conv => lhs; whnf)
        try (rw [hb6]; conv => lhs; whnf)
        obtain ⟨y7, h_y7, h⟩ := callK_inv h
        rw [cl_eq hcl (L_impl_BadTable_logical a_0 h_y7)]
        rotate_left
        · show _ = _; kernel_rfl
        · show _ = _; kernel_rfl
        conv => lhs; whnf
        try (rw [hb6]; conv => lhs; whnf)
        try (rw [hb6]; conv => lhs; whnf)
        cases hb8 : ((a_0.Remap.length : Int) != y7)
        · replace h := ifF h ((fun h => not_not_intro (bneF h)) hb8); conv => lhs; whnf
          try rw [len_of (l := a_0.Remap) (r := rI)]
          obtain ⟨hl_i16, h⟩ := grd_inv h
          refine loop_for hlp (l := a_0.Remap) hl_i16 (fun (i16 : Nat) (_ : Unit) => ([.dead, .bp 0 0, .dead, .dead, .dead, .dead, .dead, .dead, .dead, .dead, .dead, .dead, .dead, .dead, .dead, .dead, .dead, .dead, .dead, .dead, .dead, .dead, .dead, .dead, .dead, .dead, .dead, .dead, .dead, .dead, .dead, .dead, .dead, .dead, .d (.arr (a_0.Remap.map rI)), IN (a_0.Remap.length : Int), IN (i16 : Int)] ++ List.replicate 18 .dead : List V)) (fun (i16 : Nat) (_ : Unit) => ([some (.box [IN a_0.Geo.Dies, IN a_0.Geo.Blocks, IN a_0.Geo.Pages, IN a_0.Spare, .d (.arr (a_0.Bad.map rI)), .d (.arr (a_0.Remap.map rI))])] : Fo)) (fun (r : Bool) => ((BO r : V), ([] : Fo))) ?_ ?_ () _ (fun kk => by kernel_rfl) h
          · clear h
            rintro next_nx17 nx17 i16 hi_i16 hnx17 ⟨⟩ r h
            try dsimp only at h
            have hn_i16 : i16 < 4611686018427387904 := by omega
            have hx_x18 := get_map rI a_0.Remap i16 hi_i16
            generalize a_0.Remap[i16] = x18 at h hx_x18
            have hd_i16 : (decide ((i16 : Int) < (a_0.Remap.length : Int))) = true := decide_eq_true (by omega)
            conv => lhs; whnf
            rw [hd_i16]
            conv => lhs; whnf
            try (rw [decide_eq_true hq_x18]; conv => lhs; whnf)
            rw [hx_x18]
            conv => lhs; whnf
            rw [hx_x18]
            conv => lhs; whnf
            obtain ⟨y19, h_y19, h⟩ := callK_inv h
            rw [cl_eq hcl (L_impl_BadTable_remapOk a_0 (i16 : Int) x18 h_y19)]
            rotate_left
            · show _ = _; kernel_rfl
            · show _ = _; kernel_rfl
            conv => lhs; whnf
            cases hb20 : y19
            · replace h := ifF h (booF hb20); conv => lhs; whnf
              try (rw [hb20]; conv => lhs; whnf)
              try (rw [hb20]; conv => lhs; whnf)
              try (rw [hb20]; conv => lhs; whnf)
              try (rw [hb20]; conv => lhs; whnf)
              try (rw [hb20]; conv => lhs; whnf)
              try (rw [hb20]; conv => lhs; whnf)
              obtain rfl := Option.some.inj h; show _ = _; kernel_rfl
            · replace h := ifT h hb20; conv => lhs; whnf
              try (rw [hb20]; conv => lhs; whnf)
              try (rw [hb20]; conv => lhs; whnf)
              try (rw [hb20]; conv => lhs; whnf)
              obtain ⟨hg23, h⟩ := grd_inv h
              try (rw [allLen_map rI _ rI_len]; conv => lhs; whnf)
              try rw [List.length_map]
              try (rw [decide_eq_true hg23.1]; conv => lhs; whnf)
              try (rw [decide_eq_true hg23.2.1]; conv => lhs; whnf)
              try (rw [decide_eq_true hg23.2.2])
              conv => lhs; whnf
              try rw [cut_of (r := rI) (l := a_0.Remap)]
              try (rw [hb20]; conv => lhs; whnf)
              try (rw [hb20]; conv => lhs; whnf)
              obtain ⟨y21, h_y21, h⟩ := callK_inv h
              rw [cl_eq hcl (L_slices_Contains ((a_0.Remap.drop (Int.toNat 0)).take (Int.toNat (i16 : Int) - Int.toNat 0)) x18 h_y21)]
              rotate_left
              · show _ = _; kernel_rfl
              · show _ = _; kernel_rfl
              conv => lhs; whnf
              try (rw [hb20]; conv => lhs; whnf)
              cases hb22 : y21
              · replace h := ifF h (booF hb22); conv => lhs; whnf
                rw [wrap_nat i16 (by have := hn_i16; omega)]
                exact hnx17 _ _ _ _ (fun kk => by kernel_rfl) h
              · replace h := ifT h hb22; conv => lhs; whnf
                obtain rfl := Option.some.inj h; show _ = _; kernel_rfl
          · clear h
            rintro next_nx17 ⟨⟩ r h
            try dsimp only at h
            have hd_i16 : (decide ((a_0.Remap.length : Int) < (a_0.Remap.length : Int))) = false := decide_eq_false (by omega)
            conv => lhs; whnf
            rw [hd_i16]
            conv => lhs; whnf
            obtain rfl := Option.some.inj h; show _ = _; kernel_rfl
        · replace h := ifT h (bneT hb8); conv => lhs; whnf
          obtain rfl := Option.some.inj h; show _ = _; kernel_rfl

noncomputable def p_impl_BadTable_clone (a_0 : BadTable) : Option (Int × Int × Int × Int × (List Int) × (List Int)) :=
  grd (appOk a_0.Bad.length 8 = true) <|
  grd (appOk a_0.Remap.length 8 = true) <|
  some (a_0.Geo.Dies, a_0.Geo.Blocks, a_0.Geo.Pages, a_0.Spare, a_0.Bad, a_0.Remap)

set_option maxHeartbeats 4000000 in
theorem L_impl_BadTable_clone (a_0 : BadTable) {r : (Int × Int × Int × Int × (List Int) × (List Int))} (h : p_impl_BadTable_clone a_0 = some r) : callL E 213 [.agg [IN a_0.Geo.Dies, IN a_0.Geo.Blocks, IN a_0.Geo.Pages, IN a_0.Spare, .d (.arr (a_0.Bad.map rI)), .d (.arr (a_0.Remap.map rI))]] ([] : Fo) = some (.agg [IN r.1, IN r.2.1, IN r.2.2.1, IN r.2.2.2.1, .sl 0, .sl 1], ([some (.arr 2 1 (r.2.2.2.2.1.map rI)), some (.arr 2 1 (r.2.2.2.2.2.map rI))] : Fo)) := by
  unfold p_impl_BadTable_clone at h
  refine callW (fu := Try.f213) rfl rfl rfl NN ?_
  intro lp cl hlp hcl
  conv => lhs; whnf
  obtain ⟨hg1, h⟩ := grd_inv h
  rw [cl_eq hcl (f_clone (rows := a_0.Bad.map rI) rfl (app_eq hg1 (List.length_map ..) rfl) (allLen_map rI _ rI_len _) rfl)]
  rotate_left
  · exact rfl
  · exact rfl
  conv => lhs; whnf
  obtain ⟨hg2, h⟩ := grd_inv h
  rw [cl_eq hcl (f_clone (rows := a_0.Remap.map rI) rfl (app_eq hg2 (List.length_map ..) rfl) (allLen_map rI _ rI_len _) rfl)]
  rotate_left
  · exact rfl
  · exact rfl
  conv => lhs; whnf
  obtain rfl := Option.some.inj h; show _ = _; kernel_rfl

noncomputable def p_impl_BadTable_available_c1 (a_0 : Int) (a_1 : BadTable) : Option Bool :=
  callK (p_impl_BadTable_isBad a_1 a_0) fun y1 =>
  if y1 = true then
    some true
  else
    callK (p_slices_Contains a_1.Remap a_0) fun y3 =>
    some y3

set_option maxHeartbeats 4000000 in
theorem L_impl_BadTable_available_c1 (a_0 : Int) (a_1 : BadTable) {r : Bool} (h : p_impl_BadTable_available_c1 a_0 a_1 = some r) : callL E 222 [IN a_0, .bp 0 0] ([some (.box [IN a_1.Geo.Dies, IN a_1.Geo.Blocks, IN a_1.Geo.Pages, IN a_1.Spare, .d (.arr (a_1.Bad.map rI)), .d (.arr (a_1.Remap.map rI))])] : Fo) = some (BO r, ([some (.box [IN a_1.Geo.Dies, IN a_1.Geo.Blocks, IN a_1.Geo.Pages, IN a_1.Spare, .d (.arr (a_1.Bad.map rI)), .d (.arr (a_1.Remap.map rI))])] : Fo)) := by
  unfold p_impl_BadTable_available_c1 at h
  refine callW (fu := Try.f222) rfl rfl rfl NN ?_
  intro lp cl hlp hcl
  conv => lhs; whnf
  obtain ⟨y1, h_y1, h⟩ := callK_inv h
  rw [cl_eq hcl (L_impl_BadTable_isBad a_1 a_0 h_y1)]
  rotate_left
  · show _ = _; kernel_rfl
  · show _ = _; kernel_rfl
  conv => lhs; whnf
  cases hb2 : y1
  · replace h := ifF h (booF hb2); conv => lhs; whnf
    try (rw [hb2]; conv => lhs; whnf)
    try (rw [hb2]; conv => lhs; whnf)
    try (rw [hb2]; conv => lhs; whnf)
    obtain ⟨y3, h_y3, h⟩ := callK_inv h
    rw [cl_eq hcl (L_slices_Contains a_1.Remap a_0 h_y3)]
    rotate_left
    · show _ = _; kernel_rfl
    · show _ = _; kernel_rfl
    conv => lhs; whnf
    try (rw [hb2]; conv => lhs; whnf)
    obtain rfl := Option.some.inj h; show _ = _; kernel_rfl
  · replace h := ifT h hb2; conv => lhs; whnf
    try (rw [hb2]; conv => lhs; whnf)
    try (rw [hb2]; conv => lhs; whnf)
    try (rw [hb2]; conv => lhs; whnf)
    try (rw [hb2]; conv => lhs; whnf)
    obtain rfl := Option.some.inj h; show _ = _; kernel_rfl

noncomputable def p_slices_IndexFunc_impl_BadTable_available_c1 (a_0 : List Int) (a_1 : BadTable) : Option Int :=
  grd (a_0.length < 4611686018427387904) <|
  forK a_0 (fun (i6 : Nat) x8 (_ : Unit) (nx7 : Unit → Option _) =>
    callK (p_impl_BadTable_available_c1 x8 a_1) fun y9 =>
    if y9 = true then
      some (i6 : Int)
    else
      nx7 ()) () (fun (_ : Unit) =>
    some (-1))

set_option maxHeartbeats 4000000 in
theorem L_slices_IndexFunc_impl_BadTable_available_c1 (a_0 : List Int) (a_1 : BadTable) {r : Int} (h : p_slices_IndexFunc_impl_BadTable_available_c1 a_0 a_1 = some r) : callL E 303 [.sl 0, .clo 222 [.bp 1 0]] ([some (.arr 2 1 (a_0.map rI)), some (.box [IN a_1.Geo.Dies, IN a_1.Geo.Blocks, IN a_1.Geo.Pages, IN a_1.Spare, .d (.arr (a_1.Bad.map rI)), .d (.arr (a_1.Remap.map rI))])] : Fo) = some (IN r, ([some (.arr 2 1 (a_0.map rI)), some (.box [IN a_1.Geo.Dies, IN a_1.Geo.Blocks, IN a_1.Geo.Pages, IN a_1.Spare, .d (.arr (a_1.Bad.map rI)), .d (.arr (a_1.Remap.map rI))])] : Fo)) := by
  unfold p_slices_IndexFunc_impl_BadTable_available_c1 at h
  refine callW (fu := Try.f303) rfl rfl rfl NN ?_
  intro lp cl hlp hcl
  conv => lhs; whnf
  try rw [len_of (l := a_0) (r := rI)]
  obtain ⟨hl_i6, h⟩ := grd_inv h
  refine loop_for hlp (l := a_0) hl_i6 (fun (i6 : Nat) (_ : Unit) => ([.sl 0, .clo 222 [.bp 1 0], .dead, .dead, .dead, .dead, .dead, IN (a_0.length : Int), IN (i6 : Int)] ++ List.replicate 10 .dead : List V)) (fun (i6 : Nat) (_ : Unit) => ([some (.arr 2 1 (a_0.map rI)), some (.box [IN a_1.Geo.Dies, IN a_1.Geo.Blocks, IN a_1.Geo.Pages, IN a_1.Spare, .d (.arr (a_1.Bad.map rI)), .d (.arr (a_1.Remap.map rI))])] : Fo)) (fun (r : Int) => ((IN r : V), ([some (.arr 2 1 (a_0.map rI)), some (.box [IN a_1.Geo.Dies, IN a_1.Geo.Blocks, IN a_1.Geo.Pages, IN a_1.Spare, .d (.arr (a_1.Bad.map rI)), .d (.arr (a_1.Remap.map rI))])] : Fo))) ?_ ?_ () _ (fun kk => by kernel_rfl) h
  · clear h
    rintro next_nx7 nx7 i6 hi_i6 hnx7 ⟨⟩ r h
    try dsimp only at h
    have hn_i6 : i6 < 4611686018427387904 := by omega
    have hx_x8 := get_map rI a_0 i6 hi_i6
    generalize a_0[i6] = x8 at h hx_x8
    have hd_i6 : (decide ((i6 : Int) < (a_0.length : Int))) = true := decide_eq_true (by omega)
    conv => lhs; whnf
    rw [hd_i6]
    conv => lhs; whnf
    try (rw [decide_eq_true hq_x8]; conv => lhs; whnf)
    rw [hx_x8]
    conv => lhs; whnf
    rw [hx_x8]
    conv => lhs; whnf
    obtain ⟨y9, h_y9, h⟩ := callK_inv h
    rw [cl_eq hcl (L_impl_BadTable_available_c1 x8 a_1 h_y9)]
    rotate_left
    · show _ = _; kernel_rfl
    · show _ = _; kernel_rfl
    conv => lhs; whnf
    cases hb10 : y9
    · replace h := ifF h (booF hb10); conv => lhs; whnf
      rw [wrap_nat i6 (by have := hn_i6; omega)]
      exact hnx7 _ _ _ _ (fun kk => by kernel_rfl) h
    · replace h := ifT h hb10; conv => lhs; whnf
      obtain rfl := Option.some.inj h; show _ = _; kernel_rfl
  · clear h
    rintro next_nx7 ⟨⟩ r h
    try dsimp only at h
    have hd_i6 : (decide ((a_0.length : Int) < (a_0.length : Int))) = false := decide_eq_false (by omega)
    conv => lhs; whnf
    rw [hd_i6]
    conv => lhs; whnf
    obtain rfl := Option.some.inj h; show _ = _; kernel_rfl

noncomputable def p_slices_DeleteFunc_impl_BadTable_available_c1 (a_0 : List Int) (a_1 : BadTable) : Option (List Int) :=
  callK (p_slices_IndexFunc_impl_BadTable_available_c1 a_0 a_1) fun y1 =>
  if y1 = (-1) then
    some a_0
  else
    iterK (fun ((v3, v4, v5) : (Int × Int × (List Int))) (nx6 : (Int × Int × (List Int)) → Option _) =>
      if v4 < (v5.length : Int) then
        getK v5 v4 fun x8 =>
        callK (p_impl_BadTable_available_c1 x8 a_1) fun y9 =>
        if y9 = true then
          nx6 (v3, (IntKind.i64.wrap (v4 + 1)), v5)
        else
          getK v5 v3 fun x11 =>
          nx6 ((IntKind.i64.wrap (v3 + 1)), (IntKind.i64.wrap (v4 + 1)), (v5.set (Int.toNat v3) x8))
      else
        grd (0 ≤ v3 ∧ v3 < (v5.length : Int)) <|
        grd (0 ≤ v3 ∧ v3 ≤ ((v5.take (Int.toNat v3) ++ List.replicate (v5.length - (Int.toNat v3)) (0 : Int)).length : Int)) <|
        some ((v5.take (Int.toNat v3) ++ List.replicate (v5.length - (Int.toNat v3)) (0 : Int)).take (Int.toNat v3))) NN (y1, (IntKind.i64.wrap (y1 + 1)), a_0)

set_option maxHeartbeats 4000000 in
theorem L_slices_DeleteFunc_impl_BadTable_available_c1 (a_0 : List Int) (a_1 : BadTable) {r : (List Int)} (h : p_slices_DeleteFunc_impl_BadTable_available_c1 a_0 a_1 = some r) : callL E 220 [.sl 0, .clo 222 [.bp 1 0]] ([some (.arr 2 1 (a_0.map rI)), some (.box [IN a_1.Geo.Dies, IN a_1.Geo.Blocks, IN a_1.Geo.Pages, IN a_1.Spare, .d (.arr (a_1.Bad.map rI)), .d (.arr (a_1.Remap.map rI))])] : Fo) = some (.sl 2, ([none, some (.box [IN a_1.Geo.Dies, IN a_1.Geo.Blocks, IN a_1.Geo.Pages, IN a_1.Spare, .d (.arr (a_1.Bad.map rI)), .d (.arr (a_1.Remap.map rI))]), some (.arr 2 1 (r.map rI))] : Fo)) := by
  unfold p_slices_DeleteFunc_impl_BadTable_available_c1 at h
  refine callW (fu := Try.f220) rfl rfl rfl NN ?_
  intro lp cl hlp hcl
  conv => lhs; whnf
  obtain ⟨y1, h_y1, h⟩ := callK_inv h
  rw [cl_eq hcl (L_slices_IndexFunc_impl_BadTable_available_c1 a_0 a_1 h_y1)]
  rotate_left
  · show _ = _; kernel_rfl
  · show _ = _; kernel_rfl
  conv => lhs; whnf
  cases hb2 : (y1 == (-1))
  · replace h := ifF h (beqF hb2); conv => lhs; whnf
    refine loop_iter hlp (fun ((v3, v4, v5) : (Int × Int × (List Int))) => ([.sl 0, .clo 222 [.bp 1 0], .dead, .dead, .dead, IN v3, IN v4] ++ List.replicate 35 .dead : List V)) (fun ((v3, v4, v5) : (Int × Int × (List Int))) => ([some (.arr 2 1 (v5.map rI)), some (.box [IN a_1.Geo.Dies, IN a_1.Geo.Blocks, IN a_1.Geo.Pages, IN a_1.Spare, .d (.arr (a_1.Bad.map rI)), .d (.arr (a_1.Remap.map rI))])] : Fo)) (fun (r : (List Int)) => ((.sl 2 : V), ([none, some (.box [IN a_1.Geo.Dies, IN a_1.Geo.Blocks, IN a_1.Geo.Pages, IN a_1.Spare, .d (.arr (a_1.Bad.map rI)), .d (.arr (a_1.Remap.map rI))]), some (.arr 2 1 (r.map rI))] : Fo))) ?_ (y1, (IntKind.i64.wrap (y1 + 1)), a_0) _ (fun kk => by kernel_rfl) h
    clear h
    rintro next_nx6 nx6 hnx6 ⟨v3, v4, v5⟩ r h
    try dsimp only at h
    conv => lhs; whnf
    try rw [len_of (l := v5) (r := rI)]
    cases hb7 : (decide (v4 < (v5.length : Int)))
    · replace h := ifF h (decF hb7); conv => lhs; whnf
      obtain ⟨hg12, h⟩ := grd_inv h
      try rw [List.length_map]
      try (rw [decide_eq_true hg12.1]; conv => lhs; whnf)
      try (rw [decide_eq_true hg12.2])
      conv => lhs; whnf
      first | (rw [wipe_of (r := rI) (l := v5) (x := (0 : Int)) ?hh]; case hh => exact rfl) | skip
      obtain ⟨hg13, h⟩ := grd_inv h
      try rw [List.length_map]
      try (rw [decide_eq_true hg13.1]; conv => lhs; whnf)
      try (rw [decide_eq_true hg13.2])
      conv => lhs; whnf
      try rw [take_of (r := rI) (l := (v5.take (Int.toNat v3) ++ List.replicate (v5.length - (Int.toNat v3)) (0 : Int)))]
      obtain rfl := Option.some.inj h; show _ = _; kernel_rfl
    · replace h := ifT h (decT hb7); conv => lhs; whnf
      obtain ⟨x8, hq_x8, hx_x8', h⟩ := getK_inv h
      have hx_x8 := get_of (r := rI) hx_x8'
      try (rw [decide_eq_true hq_x8]; conv => lhs; whnf)
      rw [hx_x8]
      conv => lhs; whnf
      rw [hx_x8]
      conv => lhs; whnf
      obtain ⟨y9, h_y9, h⟩ := callK_inv h
      rw [cl_eq hcl (L_impl_BadTable_available_c1 x8 a_1 h_y9)]
      rotate_left
      · show _ = _; kernel_rfl
      · show _ = _; kernel_rfl
      conv => lhs; whnf
      cases hb10 : y9
      · replace h := ifF h (booF hb10); conv => lhs; whnf
        obtain ⟨x11, hq_x11, hx_x11', h⟩ := getK_inv h
        have hx_x11 := get_of (r := rI) hx_x11'
        try (rw [decide_eq_true hq_x11]; conv => lhs; whnf)
        rw [hx_x11]
        conv => lhs; whnf
        rw [hx_x11]
        conv => lhs; whnf
        first | (rw [map_set_of (r := rI) (l := v5) (x := x8) ?hh]; case hh => exact rfl) | skip
        exact hnx6 _ _ _ _ (fun kk => by kernel_rfl) h
      · replace h := ifT h hb10; conv => lhs; whnf
        exact hnx6 _ _ _ _ (fun kk => by kernel_rfl) h
  · replace h := ifT h (beqT hb2); conv => lhs; whnf
    obtain rfl := Option.some.inj h; show _ = _; kernel_rfl

noncomputable def p_impl_BadTable_available (a_0 : BadTable) (a_1 : Int) : Option (List Int) :=
  callK (p_impl_BadTable_spares a_0 a_1) fun y1 =>
  callK (p_slices_DeleteFunc_impl_BadTable_available_c1 y1 a_0) fun y2 =>
  some y2

set_option maxHeartbeats 4000000 in
theorem L_impl_BadTable_available (a_0 : BadTable) (a_1 : Int) {r : (List Int)} (h : p_impl_BadTable_available a_0 a_1 = some r) : callL E 121 [.agg [IN a_0.Geo.Dies, IN a_0.Geo.Blocks, IN a_0.Geo.Pages, IN a_0.Spare, .d (.arr (a_0.Bad.map rI)), .d (.arr (a_0.Remap.map rI))], IN a_1] ([] : Fo) = some (.sl 0, ([some (.arr 2 1 (r.map rI))] : Fo)) := by
  unfold p_impl_BadTable_available at h
  refine callW (fu := Try.f121) rfl rfl rfl NN ?_
  intro lp cl hlp hcl
  conv => lhs; whnf
  obtain ⟨y1, h_y1, h⟩ := callK_inv h
  rw [cl_eq hcl (L_impl_BadTable_spares a_0 a_1 h_y1)]
  rotate_left
  · show _ = _; kernel_rfl
  · show _ = _; kernel_rfl
  conv => lhs; whnf
  obtain ⟨y2, h_y2, h⟩ := callK_inv h
  rw [cl_eq hcl (L_slices_DeleteFunc_impl_BadTable_available_c1 y1 a_0 h_y2)]
  rotate_left
  · show _ = _; kernel_rfl
  · show _ = _; kernel_rfl
  conv => lhs; whnf
  obtain rfl := Option.some.inj h; show _ = _; kernel_rfl

noncomputable def p_cmp_isNaN (a_0 : Int) : Option Bool :=
  some (a_0 != a_0)

set_option maxHeartbeats 4000000 in
theorem L_cmp_isNaN (a_0 : Int) {r : Bool} (h : p_cmp_isNaN a_0 = some r) : callL E 339 [IN a_0] ([] : Fo) = some (BO r, ([] : Fo)) := by
  unfold p_cmp_isNaN at h
  refine callW (fu := Try.f339) rfl rfl rfl NN ?_
  intro lp cl hlp hcl
  conv => lhs; whnf
  obtain rfl := Option.some.inj h; show _ = _; kernel_rfl

noncomputable def p_cmp_Less (a_0 : Int) (a_1 : Int) : Option Bool :=
  callK (p_cmp_isNaN a_0) fun y1 =>
  if y1 = true then
    callK (p_cmp_isNaN a_1) fun y3 =>
    if y3 = true then
      some (decide (a_0 < a_1))
    else
      some true
  else
    some (decide (a_0 < a_1))

set_option maxHeartbeats 4000000 in
theorem L_cmp_Less (a_0 : Int) (a_1 : Int) {r : Bool} (h : p_cmp_Less a_0 a_1 = some r) : callL E 299 [IN a_0, IN a_1] ([] : Fo) = some (BO r, ([] : Fo)) := by
  unfold p_cmp_Less at h
  refine callW (fu := Try.f299) rfl rfl rfl NN ?_
  intro lp cl hlp hcl
  conv => lhs; whnf
  obtain ⟨y1, h_y1, h⟩ := callK_inv h
  rw [cl_eq hcl (L_cmp_isNaN a_0 h_y1)]
  rotate_left
  · show _ = _; kernel_rfl
  · show _ = _; kernel_rfl
  conv => lhs; whnf
  cases hb2 : y1
  · replace h := ifF h (booF hb2); conv => lhs; whnf
    try (rw [hb2]; conv => lhs; whnf)
    try (rw [hb2]; conv => lhs; whnf)
    try (rw [hb2]; conv => lhs; whnf)
    obtain rfl := Option.some.inj h; show _ = _; kernel_rfl
  · replace h := ifT h hb2; conv => lhs; whnf
    try (rw [hb2]; conv => lhs; whnf)
    obtain ⟨y3, h_y3, h⟩ := callK_inv h
    rw [cl_eq hcl (L_cmp_isNaN a_1 h_y3)]
    rotate_left
    · show _ = _; kernel_rfl
    · show _ = _; kernel_rfl
    conv => lhs; whnf
    try (rw [hb2]; conv => lhs; whnf)
    try (rw [hb2]; conv => lhs; whnf)
    cases hb4 : y3
    · replace h := ifF h (booF hb4); conv => lhs; whnf
      try (rw [hb4]; conv => lhs; whnf)
      try (rw [hb4]; conv => lhs; whnf)
      try (rw [hb4]; conv => lhs; whnf)
      obtain rfl := Option.some.inj h; show _ = _; kernel_rfl
    · replace h := ifT h hb4; conv => lhs; whnf
      try (rw [hb4]; conv => lhs; whnf)
      try (rw [hb4]; conv => lhs; whnf)
      try (rw [hb4]; conv => lhs; whnf)
      obtain rfl := Option.some.inj h; show _ = _; kernel_rfl

noncomputable def p_slices_isNaN (a_0 : Int) : Option Bool :=
  some (a_0 != a_0)

set_option maxHeartbeats 4000000 in
theorem L_slices_isNaN (a_0 : Int) {r : Bool} (h : p_slices_isNaN a_0 = some r) : callL E 300 [IN a_0] ([] : Fo) = some (BO r, ([] : Fo)) := by
  unfold p_slices_isNaN at h
  refine callW (fu := Try.f300) rfl rfl rfl NN ?_
  intro lp cl hlp hcl
  conv => lhs; whnf
  obtain rfl := Option.some.inj h; show _ = _; kernel_rfl

noncomputable def p_slices_BinarySearch (a_0 : List Int) (a_1 : Int) : Option (Int × Bool) :=
  iterK (fun ((v1, v2) : (Int × Int)) (nx3 : (Int × Int) → Option _) =>
    if v1 < v2 then
      getK a_0 (IntKind.i64.wrap (Int.fdiv (IntKind.u64.wrap (IntKind.i64.wrap (v1 + v2))) (2 ^ (min (Int.toNat 1) IntKind.u64.bits)))) fun x5 =>
      callK (p_cmp_Less x5 a_1) fun y6 =>
      if y6 = true then
        nx3 ((IntKind.i64.wrap ((IntKind.i64.wrap (Int.fdiv (IntKind.u64.wrap (IntKind.i64.wrap (v1 + v2))) (2 ^ (min (Int.toNat 1) IntKind.u64.bits)))) + 1)), v2)
      else
        nx3 (v1, (IntKind.i64.wrap (Int.fdiv (IntKind.u64.wrap (IntKind.i64.wrap (v1 + v2))) (2 ^ (min (Int.toNat 1) IntKind.u64.bits)))))
    else
      if v1 < (a_0.length : Int) then
        getK a_0 v1 fun x9 =>
        if x9 = a_1 then
          some (v1, true)
        else
          callK (p_slices_isNaN x9) fun y11 =>
          if y11 = true then
            callK (p_slices_isNaN a_1) fun y13 =>
            some (v1, y13)
          else
            some (v1, false)
      else
        some (v1, false)) NN (0, (a_0.length : Int))

set_option maxHeartbeats 4000000 in
theorem L_slices_BinarySearch (a_0 : List Int) (a_1 : Int) {r : (Int × Bool)} (h : p_slices_BinarySearch a_0 a_1 = some r) : callL E 215 [.d (.arr (a_0.map rI)), IN a_1] ([] : Fo) = some (.tup [IN r.1, BO r.2], ([] : Fo)) := by
  unfold p_slices_BinarySearch at h
  refine callW (fu := Try.f215) rfl rfl rfl NN ?_
  intro lp cl hlp hcl
  conv => lhs; whnf
  try rw [len_of (l := a_0) (r := rI)]
  refine loop_iter hlp (fun ((v1, v2) : (Int × Int)) => ([.d (.arr (a_0.map rI)), IN a_1, .dead, .dead, .dead, .dead, IN (a_0.length : Int), IN v1, IN v2] ++ List.replicate 45 .dead : List V)) (fun ((v1, v2) : (Int × Int)) => ([] : Fo)) (fun (r : (Int × Bool)) => ((.tup [IN r.1, BO r.2] : V), ([] : Fo))) ?_ (0, (a_0.length : Int)) _ (fun kk => by kernel_rfl) h
  clear h
  rintro next_nx3 nx3 hnx3 ⟨v1, v2⟩ r h
  try dsimp only at h
  conv => lhs; whnf
  cases hb4 : (decide (v1 < v2))
  · replace h := ifF h (decF hb4); conv => lhs; whnf
    cases hb8 : (decide (v1 < (a_0.length : Int)))
    · replace h := ifF h (decF hb8); conv => lhs; whnf
      try (rw [hb8]; conv => lhs; whnf)
      try (rw [hb8]; conv => lhs; whnf)
      try (rw [hb8]; conv => lhs; whnf)
      try (rw [hb8]; conv => lhs; whnf)
      try (rw [hb8]; conv => lhs; whnf)
      try (rw [hb8]; conv => lhs; whnf)
      try (rw [hb8]; conv => lhs; whnf)
      try (rw [hb8]; conv => lhs; whnf)
      obtain rfl := Option.some.inj h; show _ = _; kernel_rfl
    · replace h := ifT h (decT hb8); conv => lhs; whnf
      try (rw [hb8]; conv => lhs; whnf)
      try (rw [hb8]; conv => lhs; whnf)
      obtain ⟨x9, hq_x9, hx_x9', h⟩ := getK_inv h
      have hx_x9 := get_of (r := rI) hx_x9'
      try (rw [decide_eq_true hq_x9]; conv => lhs; whnf)
      rw [hx_x9]
      conv => lhs; whnf
      try (rw [hb8]; conv => lhs; whnf)
      rw [hx_x9]
      conv => lhs; whnf
      try (rw [hb8]; conv => lhs; whnf)
      try (rw [hb8]; conv => lhs; whnf)
      try (rw [hb8]; conv => lhs; whnf)
      cases hb10 : (x9 == a_1)
      · replace h := ifF h (beqF hb10); conv => lhs; whnf
        try (rw [hb10]; conv => lhs; whnf)
        try (rw [hb10]; conv => lhs; whnf)
        try (rw [decide_eq_true hq_x9]; conv => lhs; whnf)
        rw [hx_x9]
        conv => lhs; whnf
        try (rw [hb10]; conv => lhs; whnf)
        rw [hx_x9]
        conv => lhs; whnf
        try (rw [hb10]; conv => lhs; whnf)
        obtain ⟨y11, h_y11, h⟩ := callK_inv h
        rw [cl_eq hcl (L_slices_isNaN x9 h_y11)]
        rotate_left
        · show _ = _; kernel_rfl
        · show _ = _; kernel_rfl
        conv => lhs; whnf
        try (rw [hb10]; conv => lhs; whnf)
        cases hb12 : y11
        · replace h := ifF h (booF hb12); conv => lhs; whnf
          try (rw [hb12]; conv => lhs; whnf)
          try (rw [hb10]; conv => lhs; whnf)
          try (rw [hb12]; conv => lhs; whnf)
          try (rw [hb8]; conv => lhs; whnf)
          try (rw [hb10]; conv => lhs; whnf)
          try (rw [hb8]; conv => lhs; whnf)
          obtain rfl := Option.some.inj h; show _ = _; kernel_rfl
        · replace h := ifT h hb12; conv => lhs; whnf
          try (rw [hb12]; conv => lhs; whnf)
          obtain ⟨y13, h_y13, h⟩ := callK_inv h
          rw [cl_eq hcl (L_slices_isNaN a_1 h_y13)]
          rotate_left
          · show _ = _; kernel_rfl
          · show _ = _; kernel_rfl
          conv => lhs; whnf
          try (rw [hb10]; conv => lhs; whnf)
          try (rw [hb12]; conv => lhs; whnf)
          try (rw [hb8]; conv => lhs; whnf)
          try (rw [hb10]; conv => lhs; whnf)
          try (rw [hb8]; conv => lhs; whnf)
          obtain rfl := Option.some.inj h; show _ = _; kernel_rfl
      · replace h := ifT h (beqT hb10); conv => lhs; whnf
        try (rw [hb10]; conv => lhs; whnf)
        try (rw [hb10]; conv => lhs; whnf)
        try (rw [hb10]; conv => lhs; whnf)
        try (rw [hb10]; conv => lhs; whnf)
        try (rw [hb10]; conv => lhs; whnf)
        try (rw [hb10]; conv => lhs; whnf)
        try (rw [hb8]; conv => lhs; whnf)
        try (rw [hb10]; conv => lhs; whnf)
        try (rw [hb8]; conv => lhs; whnf)
        obtain rfl := Option.some.inj h; show _ = _; kernel_rfl
  · replace h := ifT h (decT hb4); conv => lhs; whnf
    obtain ⟨x5, hq_x5, hx_x5', h⟩ := getK_inv h
    have hx_x5 := get_of (r := rI) hx_x5'
    try (rw [decide_eq_true hq_x5]; conv => lhs; whnf)
    rw [hx_x5]
    conv => lhs; whnf
    rw [hx_x5]
    conv => lhs; whnf
    obtain ⟨y6, h_y6, h⟩ := callK_inv h
    rw [cl_eq hcl (L_cmp_Less x5 a_1 h_y6)]
    rotate_left
    · show _ = _; kernel_rfl
    · show _ = _; kernel_rfl
    conv => lhs; whnf
    cases hb7 : y6
    · replace h := ifF h (booF hb7); conv => lhs; whnf
      exact hnx3 _ _ _ _ (fun kk => by kernel_rfl) h
    · replace h := ifT h hb7; conv => lhs; whnf
      exact hnx3 _ _ _ _ (fun kk => by kernel_rfl) h

noncomputable def p_impl_BadTable_retire (a_0 : BadTable) (a_1 : Int) : Option (BadTable × Int) :=
  callK (p_impl_BadTable_isBad a_0 a_1) fun y1 =>
  if y1 = true then
    some ((⟨⟨0, 0, 0⟩, 0, ([] : List Int), ([] : List Int)⟩ : BadTable), 5)
  else
    callK (p_impl_BadTable_clone a_0) fun y3 =>
    callK (p_slices_Index a_0.Remap a_1) fun y4 =>
    if y4 ≥ 0 then
      grd (a_0.Geo.Blocks ≠ 0) <|
      callK (p_impl_BadTable_available a_0 (IntKind.i64.wrap (Int.tdiv a_1 a_0.Geo.Blocks))) fun y6 =>
      if (y6.length : Int) = 0 then
        some ((⟨⟨0, 0, 0⟩, 0, ([] : List Int), ([] : List Int)⟩ : BadTable), 4)
      else
        getK y6 0 fun x8 =>
        getK y3.2.2.2.2.2 y4 fun x9 =>
        callK (p_slices_BinarySearch y3.2.2.2.2.1 a_1) fun y10 =>
        grd (0 ≤ y10.1 ∧ y10.1 ≤ (y3.2.2.2.2.1.length : Int) ∧ 0 < ([a_1] : List Int).length) <|
        grd (appOk (y3.2.2.2.2.1.length + ([a_1] : List Int).length) 8 = true) <|
        some ((⟨⟨y3.1, y3.2.1, y3.2.2.1⟩, y3.2.2.2.1, (y3.2.2.2.2.1.take (Int.toNat y10.1) ++ ([a_1] : List Int) ++ y3.2.2.2.2.1.drop (Int.toNat y10.1)), (y3.2.2.2.2.2.set (Int.toNat y4) x8)⟩ : BadTable), 0)
    else
      callK (p_slices_BinarySearch y3.2.2.2.2.1 a_1) fun y11 =>
      grd (0 ≤ y11.1 ∧ y11.1 ≤ (y3.2.2.2.2.1.length : Int) ∧ 0 < ([a_1] : List Int).length) <|
      grd (appOk (y3.2.2.2.2.1.length + ([a_1] : List Int).length) 8 = true) <|
      some ((⟨⟨y3.1, y3.2.1, y3.2.2.1⟩, y3.2.2.2.1, (y3.2.2.2.2.1.take (Int.toNat y11.1) ++ ([a_1] : List Int) ++ y3.2.2.2.2.1.drop (Int.toNat y11.1)), y3.2.2.2.2.2⟩ : BadTable), 0)

set_option maxHeartbeats 4000000 in
theorem L_impl_BadTable_retire (a_0 : BadTable) (a_1 : Int) {r : (BadTable × Int)} (h : p_impl_BadTable_retire a_0 a_1 = some r) : callL E 111 [.agg [IN a_0.Geo.Dies, IN a_0.Geo.Blocks, IN a_0.Geo.Pages, IN a_0.Spare, .d (.arr (a_0.Bad.map rI)), .d (.arr (a_0.Remap.map rI))], IN a_1] ([] : Fo) = some (.tup [.agg [IN r.1.Geo.Dies, IN r.1.Geo.Blocks, IN r.1.Geo.Pages, IN r.1.Spare, .d (.arr (r.1.Bad.map rI)), .d (.arr (r.1.Remap.map rI))], IN r.2], ([] : Fo)) := by
  unfold p_impl_BadTable_retire at h
  refine callW (fu := Try.f111) rfl rfl rfl NN ?_
  intro lp cl hlp hcl
  conv => lhs; whnf
  obtain ⟨y1, h_y1, h⟩ := callK_inv h
  rw [cl_eq hcl (L_impl_BadTable_isBad a_0 a_1 h_y1)]
  rotate_left
  · show _ = _; kernel_rfl
  · show _ = _; kernel_rfl
  conv => lhs; whnf
  cases hb2 : y1
  · replace h := ifF h (booF hb2)
    try rw [hb2] at h
    conv => lhs; whnf
    obtain ⟨y3, h_y3, h⟩ := callK_inv h
    rw [cl_eq hcl (L_impl_BadTable_clone a_0 h_y3)]
    rotate_left
    · show _ = _; kernel_rfl
    · show _ = _; kernel_rfl
    conv => lhs; whnf
    obtain ⟨y4, h_y4, h⟩ := callK_inv h
    rw [cl_eq hcl (L_slices_Index a_0.Remap a_1 h_y4)]
    rotate_left
    · show _ = _; kernel_rfl
    · show _ = _; kernel_rfl
    conv => lhs; whnf
    cases hb5 : (decide (y4 ≥ 0))
    · replace h := ifF h (decF hb5); conv => lhs; whnf
      obtain ⟨y11, h_y11, h⟩ := callK_inv h
      rw [cl_eq hcl (L_slices_BinarySearch y3.2.2.2.2.1 a_1 h_y11)]
      rotate_left
      · show _ = _; kernel_rfl
      · show _ = _; kernel_rfl
      conv => lhs; whnf
      obtain ⟨hg12, h⟩ := grd_inv h; conv => lhs; whnf
      obtain ⟨hg13, h⟩ := grd_inv h
      rw [cl_eq hcl (f_insert (e1 := 2) (es := 1) (e2 := 2) (es2 := 1) (r := rI) (l := y3.2.2.2.2.1) (l2 := ([a_1] : List Int)) (j := y11.1) rfl rfl rfl rfl hg12 hg13 rfl)]
      rotate_left
      · exact rfl
      · exact rfl
      conv => lhs; whnf
      obtain rfl := Option.some.inj h; show _ = _; kernel_rfl
    · replace h := ifT h (decT hb5); conv => lhs; whnf
      obtain ⟨hg14, h⟩ := grd_inv h
      rw [quo_run _ _ _ _ hg14]
      conv => lhs; whnf
      obtain ⟨y6, h_y6, h⟩ := callK_inv h
      rw [cl_eq hcl (L_impl_BadTable_available a_0 (IntKind.i64.wrap (Int.tdiv a_1 a_0.Geo.Blocks)) h_y6)]
      rotate_left
      · show _ = _; kernel_rfl
      · show _ = _; kernel_rfl
      conv => lhs; whnf
      try rw [len_of (l := y6) (r := rI)]
      cases hb7 : ((y6.length : Int) == 0)
      · replace h := ifF h (beqF hb7); conv => lhs; whnf
        obtain ⟨x8, hq_x8, hx_x8', h⟩ := getK_inv h
        have hx_x8 := get_of (r := rI) hx_x8'
        try (rw [decide_eq_true hq_x8]; conv => lhs; whnf)
        rw [hx_x8]
        conv => lhs; whnf
        rw [hx_x8]
        conv => lhs; whnf
        obtain ⟨x9, hq_x9, hx_x9', h⟩ := getK_inv h
        have hx_x9 := get_of (r := rI) hx_x9'
        try (rw [decide_eq_true hq_x9]; conv => lhs; whnf)
        rw [hx_x9]
        conv => lhs; whnf
        rw [hx_x9]
        conv => lhs; whnf
        first | (rw [map_set_of (r := rI) (l := y3.2.2.2.2.2) (x := x8) ?hh]; case hh => exact rfl) | skip
        obtain ⟨y10, h_y10, h⟩ := callK_inv h
        rw [cl_eq hcl (L_slices_BinarySearch y3.2.2.2.2.1 a_1 h_y10)]
        rotate_left
        · show _ = _; kernel_rfl
        · show _ = _; kernel_rfl
        conv => lhs; whnf
        obtain ⟨hg15, h⟩ := grd_inv h; conv => lhs; whnf
        obtain ⟨hg16, h⟩ := grd_inv h
        rw [cl_eq hcl (f_insert (e1 := 2) (es := 1) (e2 := 2) (es2 := 1) (r := rI) (l := y3.2.2.2.2.1) (l2 := ([a_1] : List Int)) (j := y10.1) rfl rfl rfl rfl hg15 hg16 rfl)]
        rotate_left
        · exact rfl
        · exact rfl
        conv => lhs; whnf
        obtain rfl := Option.some.inj h; show _ = _; kernel_rfl
      · replace h := ifT h (beqT hb7); conv => lhs; whnf
        obtain rfl := Option.some.inj h; show _ = _; kernel_rfl
  · replace h := ifT h hb2; conv => lhs; whnf
    obtain rfl := Option.some.inj h; show _ = _; kernel_rfl

noncomputable def p_impl_RetireBlock (a_0 : BadTable) (a_1 : Int) : Option (BadTable × Int) :=
  callK (p_impl_ValidBadTable a_0) fun y1 =>
  if y1 = true then
    callK (p_impl_Geometry_all a_0.Geo) fun y3 =>
    if (inR a_1 0 (IntKind.i64.wrap (y3 - 1))) = true then
      callK (p_impl_BadTable_retire a_0 a_1) fun y5 =>
      some (y5.1, y5.2)
    else
      some ((⟨⟨0, 0, 0⟩, 0, ([] : List Int), ([] : List Int)⟩ : BadTable), 2)
  else
    some ((⟨⟨0, 0, 0⟩, 0, ([] : List Int), ([] : List Int)⟩ : BadTable), 1)

set_option maxHeartbeats 4000000 in
theorem L_impl_RetireBlock (a_0 : BadTable) (a_1 : Int) {r : (BadTable × Int)} (h : p_impl_RetireBlock a_0 a_1 = some r) : callL E 25 [.agg [IN a_0.Geo.Dies, IN a_0.Geo.Blocks, IN a_0.Geo.Pages, IN a_0.Spare, .d (.arr (a_0.Bad.map rI)), .d (.arr (a_0.Remap.map rI))], IN a_1] ([] : Fo) = some (.tup [.agg [IN r.1.Geo.Dies, IN r.1.Geo.Blocks, IN r.1.Geo.Pages, IN r.1.Spare, .d (.arr (r.1.Bad.map rI)), .d (.arr (r.1.Remap.map rI))], IN r.2], ([] : Fo)) := by
  unfold p_impl_RetireBlock at h
  refine callW (fu := Try.f25) rfl rfl rfl NN ?_
  intro lp cl hlp hcl
  conv => lhs; whnf
  obtain ⟨y1, h_y1, h⟩ := callK_inv h
  rw [cl_eq hcl (L_impl_ValidBadTable a_0 h_y1)]
  rotate_left
  · show _ = _; kernel_rfl
  · show _ = _; kernel_rfl
  conv => lhs; whnf
  cases hb2 : y1
  · replace h := ifF h (booF hb2); conv => lhs; whnf
    obtain rfl := Option.some.inj h; show _ = _; kernel_rfl
  · replace h := ifT h hb2; conv => lhs; whnf
    obtain ⟨y3, h_y3, h⟩ := callK_inv h
    rw [cl_eq hcl (L_impl_Geometry_all a_0.Geo h_y3)]
    rotate_left
    · show _ = _; kernel_rfl
    · show _ = _; kernel_rfl
    conv => lhs; whnf
    rw [cl_eq hcl (L_impl_within a_1 0 (IntKind.i64.wrap (y3 - 1)) (pl_within a_1 0 (IntKind.i64.wrap (y3 - 1))))]
    rotate_left
    · show _ = _; kernel_rfl
    · show _ = _; kernel_rfl
    conv => lhs; whnf
    cases hb4 : (inR a_1 0 (IntKind.i64.wrap (y3 - 1)))
    · replace h := ifF h (booF hb4); conv => lhs; whnf
      obtain rfl := Option.some.inj h; show _ = _; kernel_rfl
    · replace h := ifT h hb4; conv => lhs; whnf
      obtain ⟨y5, h_y5, h⟩ := callK_inv h
      rw [cl_eq hcl (L_impl_BadTable_retire a_0 a_1 h_y5)]
      rotate_left
      · show _ = _; kernel_rfl
      · show _ = _; kernel_rfl
      conv => lhs; whnf
      obtain rfl := Option.some.inj h; show _ = _; kernel_rfl

noncomputable def p_spec_l07Own' (a_0 : BadTable) : Option (Int × Int × Int × Int × (List Int) × (List Int)) :=
  callK (p_spec_l00Own' a_0.Bad) fun y1 =>
  callK (p_spec_l00Own' a_0.Remap) fun y2 =>
  some (a_0.Geo.Dies, a_0.Geo.Blocks, a_0.Geo.Pages, a_0.Spare, a_0.Bad, a_0.Remap)

set_option maxHeartbeats 4000000 in
theorem L_spec_l07Own' (a_0 : BadTable) {r : (Int × Int × Int × Int × (List Int) × (List Int))} (h : p_spec_l07Own' a_0 = some r) : callL E 116 [.agg [IN a_0.Geo.Dies, IN a_0.Geo.Blocks, IN a_0.Geo.Pages, IN a_0.Spare, .d (.arr (a_0.Bad.map rI)), .d (.arr (a_0.Remap.map rI))]] ([] : Fo) = some (.agg [IN r.1, IN r.2.1, IN r.2.2.1, IN r.2.2.2.1, .sl 0, .sl 1], ([some (.arr 2 1 (r.2.2.2.2.1.map rI)), some (.arr 2 1 (r.2.2.2.2.2.map rI))] : Fo)) := by
  unfold p_spec_l07Own' at h
  refine callW (fu := Try.f116) rfl rfl rfl NN ?_
  intro lp cl hlp hcl
  conv => lhs; whnf
  obtain ⟨y1, h_y1, h⟩ := callK_inv h
  rw [cl_eq hcl (L_spec_l00Own' a_0.Bad h_y1)]
  rotate_left
  · show _ = _; kernel_rfl
  · show _ = _; kernel_rfl
  conv => lhs; whnf
  obtain ⟨y2, h_y2, h⟩ := callK_inv h
  rw [cl_eq hcl (L_spec_l00Own' a_0.Remap h_y2)]
  rotate_left
  · show _ = _; kernel_rfl
  · show _ = _; kernel_rfl
  conv => lhs; whnf
  obtain rfl := Option.some.inj h; show _ = _; kernel_rfl

noncomputable def p_spec_RetireBlock' (a_0 : BadTable) (a_1 : Int) : Option (Int × Int × Int × Int × Int × (List Int) × (List Int)) :=
  callK (p_spec_ValidBadTable a_0) fun y1 =>
  if y1 = true then
    callK (p_spec_l07Count a_0.Geo) fun y3 =>
    if (inR a_1 0 (IntKind.i64.wrap (y3 - 1))) = true then
      callK (p_spec_l00Has a_0.Bad a_1) fun y5 =>
      if y5 = true then
        some (0, 0, 0, 0, 5, ([] : List Int), ([] : List Int))
      else
        callK (p_spec_l07Own' a_0) fun y7 =>
        callK (p_spec_l00Put y7.2.2.2.2.1 a_1) fun y8 =>
        callK (p_spec_l07Holder a_0 a_1) fun y9 =>
        if y9 < 0 then
          some (y7.1, y7.2.1, y7.2.2.1, y7.2.2.2.1, 0, y8, y7.2.2.2.2.2)
        else
          grd (a_0.Geo.Blocks ≠ 0) <|
          callK (p_spec_l07Available y7.1 y7.2.1 y7.2.2.1 y7.2.2.2.1 (IntKind.i64.wrap (Int.tdiv a_1 a_0.Geo.Blocks)) y8 y7.2.2.2.2.2) fun y11 =>
          if (y11.length : Int) = 0 then
            some (0, 0, 0, 0, 4, ([] : List Int), ([] : List Int))
          else
            getK y11 0 fun x13 =>
            getK y7.2.2.2.2.2 y9 fun x14 =>
            some (y7.1, y7.2.1, y7.2.2.1, y7.2.2.2.1, 0, y8, (y7.2.2.2.2.2.set (Int.toNat y9) x13))
    else
      some (0, 0, 0, 0, 2, ([] : List Int), ([] : List Int))
  else
    some (0, 0, 0, 0, 1, ([] : List Int), ([] : List Int))

set_option maxHeartbeats 4000000 in
theorem L_spec_RetireBlock' (a_0 : BadTable) (a_1 : Int) {r : (Int × Int × Int × Int × Int × (List Int) × (List Int))} (h : p_spec_RetireBlock' a_0 a_1 = some r) : callL E 26 [.agg [IN a_0.Geo.Dies, IN a_0.Geo.Blocks, IN a_0.Geo.Pages, IN a_0.Spare, .d (.arr (a_0.Bad.map rI)), .d (.arr (a_0.Remap.map rI))], IN a_1] ([] : Fo) = some (.tup [.agg [IN r.1, IN r.2.1, IN r.2.2.1, IN r.2.2.2.1, .sl 0, .sl 1], IN r.2.2.2.2.1], ([some (.arr 2 1 (r.2.2.2.2.2.1.map rI)), some (.arr 2 1 (r.2.2.2.2.2.2.map rI))] : Fo)) := by
  unfold p_spec_RetireBlock' at h
  refine callW (fu := Try.f26) rfl rfl rfl NN ?_
  intro lp cl hlp hcl
  conv => lhs; whnf
  obtain ⟨y1, h_y1, h⟩ := callK_inv h
  rw [cl_eq hcl (L_spec_ValidBadTable a_0 h_y1)]
  rotate_left
  · show _ = _; kernel_rfl
  · show _ = _; kernel_rfl
  conv => lhs; whnf
  cases hb2 : y1
  · replace h := ifF h (booF hb2); conv => lhs; whnf
    obtain rfl := Option.some.inj h; show _ = _; kernel_rfl
  · replace h := ifT h hb2
    try rw [hb2] at h
    conv => lhs; whnf
    obtain ⟨y3, h_y3, h⟩ := callK_inv h
    rw [cl_eq hcl (L_spec_l07Count a_0.Geo h_y3)]
    rotate_left
    · show _ = _; kernel_rfl
    · show _ = _; kernel_rfl
    conv => lhs; whnf
    rw [cl_eq hcl (L_spec_l00In a_1 0 (IntKind.i64.wrap (y3 - 1)) (pl_l00In a_1 0 (IntKind.i64.wrap (y3 - 1))))]
    rotate_left
    · show _ = _; kernel_rfl
    · show _ = _; kernel_rfl
    conv => lhs; whnf
    cases hb4 : (inR a_1 0 (IntKind.i64.wrap (y3 - 1)))
    · replace h := ifF h (booF hb4); conv => lhs; whnf
      obtain rfl := Option.some.inj h; show _ = _; kernel_rfl
    · replace h := ifT h hb4; conv => lhs; whnf
      obtain ⟨y5, h_y5, h⟩ := callK_inv h
      rw [cl_eq hcl (L_spec_l00Has a_0.Bad a_1 h_y5)]
      rotate_left
      · show _ = _; kernel_rfl
      · show _ = _; kernel_rfl
      conv => lhs; whnf
      cases hb6 : y5
      · replace h := ifF h (booF hb6); conv => lhs; whnf
        obtain ⟨y7, h_y7, h⟩ := callK_inv h
        rw [cl_eq hcl (L_spec_l07Own' a_0 h_y7)]
        rotate_left
        · show _ = _; kernel_rfl
        · show _ = _; kernel_rfl
        conv => lhs; whnf
        obtain ⟨y8, h_y8, h⟩ := callK_inv h
        rw [cl_eq hcl (L_spec_l00Put y7.2.2.2.2.1 a_1 h_y8)]
        rotate_left
        · show _ = _; kernel_rfl
        · show _ = _; kernel_rfl
        conv => lhs; whnf
        obtain ⟨y9, h_y9, h⟩ := callK_inv h
        rw [cl_eq hcl (L_spec_l07Holder a_0 a_1 h_y9)]
        rotate_left
        · show _ = _; kernel_rfl
        · show _ = _; kernel_rfl
        conv => lhs; whnf
        cases hb10 : (decide (y9 < 0))
        · replace h := ifF h (decF hb10); conv => lhs; whnf
          obtain ⟨hg15, h⟩ := grd_inv h
          rw [quo_run _ _ _ _ hg15]
          conv => lhs; whnf
          obtain ⟨y11, h_y11, h⟩ := callK_inv h
          rw [cl_eq hcl (L_spec_l07Available y7.1 y7.2.1 y7.2.2.1 y7.2.2.2.1 (IntKind.i64.wrap (Int.tdiv a_1 a_0.Geo.Blocks)) y8 y7.2.2.2.2.2 h_y11)]
          rotate_left
          · show _ = _; kernel_rfl
          · show _ = _; kernel_rfl
          conv => lhs; whnf
          try rw [len_of (l := y11) (r := rI)]
          cases hb12 : ((y11.length : Int) == 0)
          · replace h := ifF h (beqF hb12); conv => lhs; whnf
            obtain ⟨x13, hq_x13, hx_x13', h⟩ := getK_inv h
            have hx_x13 := get_of (r := rI) hx_x13'
            try (rw [decide_eq_true hq_x13]; conv => lhs; whnf)
            rw [hx_x13]
            conv => lhs; whnf
            rw [hx_x13]
            conv => lhs; whnf
            obtain ⟨x14, hq_x14, hx_x14', h⟩ := getK_inv h
            have hx_x14 := get_of (r := rI) hx_x14'
            try (rw [decide_eq_true hq_x14]; conv => lhs; whnf)
            rw [hx_x14]
            conv => lhs; whnf
            rw [hx_x14]
            conv => lhs; whnf
            first | (rw [map_set_of (r := rI) (l := y7.2.2.2.2.2) (x := x13) ?hh]; case hh => exact rfl) | skip
            obtain rfl := Option.some.inj h; show _ = _; kernel_rfl
          · replace h := ifT h (beqT hb12); conv => lhs; whnf
            obtain rfl := Option.some.inj h; show _ = _; kernel_rfl
        · replace h := ifT h (decT hb10); conv => lhs; whnf
          obtain rfl := Option.some.inj h; show _ = _; kernel_rfl
      · replace h := ifT h hb6; conv => lhs; whnf
        obtain rfl := Option.some.inj h; show _ = _; kernel_rfl

noncomputable def p_spec_l00Same (a_0 : List Int) (a_1 : List Int) : Option Bool :=
  if ¬ (a_0.length : Int) = (a_1.length : Int) then
    some false
  else
    grd (a_0.length < 4611686018427387904) <|
    forK a_0 (fun (i7 : Nat) x9 (_ : Unit) (nx8 : Unit → Option _) =>
      getK a_1 (i7 : Int) fun x10 =>
      if ¬ x9 = x10 then
        some false
      else
        nx8 ()) () (fun (_ : Unit) =>
      some true)

set_option maxHeartbeats 4000000 in
theorem L_spec_l00Same (a_0 : List Int) (a_1 : List Int) {r : Bool} (h : p_spec_l00Same a_0 a_1 = some r) : callL E 120 [.d (.arr (a_0.map rI)), .d (.arr (a_1.map rI))] ([] : Fo) = some (BO r, ([] : Fo)) := by
  unfold p_spec_l00Same at h
  refine callW (fu := Try.f120) rfl rfl rfl NN ?_
  intro lp cl hlp hcl
  conv => lhs; whnf
  try rw [len_of (l := a_0) (r := rI)]
  try rw [len_of (l := a_1) (r := rI)]
  cases hb1 : ((a_0.length : Int) != (a_1.length : Int))
  · replace h := ifF h ((fun h => not_not_intro (bneF h)) hb1); conv => lhs; whnf
    obtain ⟨hl_i7, h⟩ := grd_inv h
    refine loop_for hlp (l := a_0) hl_i7 (fun (i7 : Nat) (_ : Unit) => ([.d (.arr (a_0.map rI)), .d (.arr (a_1.map rI)), .dead, .dead, .dead, IN (i7 : Int)] ++ List.replicate 20 .dead : List V)) (fun (i7 : Nat) (_ : Unit) => ([] : Fo)) (fun (r : Bool) => ((BO r : V), ([] : Fo))) ?_ ?_ () _ (fun kk => by kernel_rfl) h
    · clear h
      rintro next_nx8 nx8 i7 hi_i7 hnx8 ⟨⟩ r h
      try dsimp only at h
      have hn_i7 : i7 < 4611686018427387904 := by omega
      have hx_x9 := get_map rI a_0 i7 hi_i7
      generalize a_0[i7] = x9 at h hx_x9
      have hd_i7 : (decide ((i7 : Int) < (a_0.length : Int))) = true := decide_eq_true (by omega)
      conv => lhs; whnf
      try rw [len_of (l := a_0) (r := rI)]
      rw [hd_i7]
      conv => lhs; whnf
      try (rw [decide_eq_true hq_x9]; conv => lhs; whnf)
      rw [hx_x9]
      conv => lhs; whnf
      rw [hx_x9]
      conv => lhs; whnf
      obtain ⟨x10, hq_x10, hx_x10', h⟩ := getK_inv h
      have hx_x10 := get_of (r := rI) hx_x10'
      try (rw [decide_eq_true hq_x10]; conv => lhs; whnf)
      rw [hx_x10]
      conv => lhs; whnf
      rw [hx_x10]
      conv => lhs; whnf
      cases hb11 : (x9 != x10)
      · replace h := ifF h ((fun h => not_not_intro (bneF h)) hb11); conv => lhs; whnf
        rw [wrap_nat i7 (by have := hn_i7; omega)]
        exact hnx8 _ _ _ _ (fun kk => by kernel_rfl) h
      · replace h := ifT h (bneT hb11); conv => lhs; whnf
        obtain rfl := Option.some.inj h; show _ = _; kernel_rfl
    · clear h
      rintro next_nx8 ⟨⟩ r h
      try dsimp only at h
      have hd_i7 : (decide ((a_0.length : Int) < (a_0.length : Int))) = false := decide_eq_false (by omega)
      conv => lhs; whnf
      try rw [len_of (l := a_0) (r := rI)]
      rw [hd_i7]
      conv => lhs; whnf
      obtain rfl := Option.some.inj h; show _ = _; kernel_rfl
  · replace h := ifT h (bneT hb1); conv => lhs; whnf
    obtain rfl := Option.some.inj h; show _ = _; kernel_rfl

noncomputable def p_spec_SameBadTable (a_0 : BadTable) (a_1 : BadTable) : Option Bool :=
  if ((a_0.Geo.Dies == a_1.Geo.Dies) && ((a_0.Geo.Blocks == a_1.Geo.Blocks) && ((a_0.Geo.Pages == a_1.Geo.Pages) && true))) = true then
    if a_0.Spare = a_1.Spare then
      callK (p_spec_l00Same a_0.Bad a_1.Bad) fun y3 =>
      if y3 = true then
        callK (p_spec_l00Same a_0.Remap a_1.Remap) fun y5 =>
        some y5
      else
        some false
    else
      some false
  else
    some false

set_option maxHeartbeats 4000000 in
theorem L_spec_SameBadTable (a_0 : BadTable) (a_1 : BadTable) {r : Bool} (h : p_spec_SameBadTable a_0 a_1 = some r) : callL E 27 [.agg [IN a_0.Geo.Dies, IN a_0.Geo.Blocks, IN a_0.Geo.Pages, IN a_0.Spare, .d (.arr (a_0.Bad.map rI)), .d (.arr (a_0.Remap.map rI))], .agg [IN a_1.Geo.Dies, IN a_1.Geo.Blocks, IN a_1.Geo.Pages, IN a_1.Spare, .d (.arr (a_1.Bad.map rI)), .d (.arr (a_1.Remap.map rI))]] ([] : Fo) = some (BO r, ([] : Fo)) := by
  unfold p_spec_SameBadTable at h
  refine callW (fu := Try.f27) rfl rfl rfl NN ?_
  intro lp cl hlp hcl
  conv => lhs; whnf
  cases hb1 : ((a_0.Geo.Dies == a_1.Geo.Dies) && ((a_0.Geo.Blocks == a_1.Geo.Blocks) && ((a_0.Geo.Pages == a_1.Geo.Pages) && true)))
  · replace h := ifF h (booF hb1); conv => lhs; whnf
    try (rw [hb1]; conv => lhs; whnf)
    try (rw [hb1]; conv => lhs; whnf)
    try (rw [hb1]; conv => lhs; whnf)
    try (rw [hb1]; conv => lhs; whnf)
    try (rw [hb1]; conv => lhs; whnf)
    obtain rfl := Option.some.inj h; show _ = _; kernel_rfl
  · replace h := ifT h hb1; conv => lhs; whnf
    try (rw [hb1]; conv => lhs; whnf)
    try (rw [hb1]; conv => lhs; whnf)
    try (rw [hb1]; conv => lhs; whnf)
    try (rw [hb1]; conv => lhs; whnf)
    try (rw [hb1]; conv => lhs; whnf)
    cases hb2 : (a_0.Spare == a_1.Spare)
    · replace h := ifF h (beqF hb2); conv => lhs; whnf
      try (rw [hb2]; conv => lhs; whnf)
      try (rw [hb2]; conv => lhs; whnf)
      try (rw [hb2]; conv => lhs; whnf)
      try (rw [hb2]; conv => lhs; whnf)
      try (rw [hb2]; conv => lhs; whnf)
      obtain rfl := Option.some.inj h; show _ = _; kernel_rfl
    · replace h := ifT h (beqT hb2); conv => lhs; whnf
      try (rw [hb2]; conv => lhs; whnf)
      try (rw [hb2]; conv => lhs; whnf)
      try (rw [hb2]; conv => lhs; whnf)
      try (rw [hb2]; conv => lhs; whnf)
      obtain ⟨y3, h_y3, h⟩ := callK_inv h
      rw [cl_eq hcl (L_spec_l00Same a_0.Bad a_1.Bad h_y3)]
      rotate_left
      · show _ = _; kernel_rfl
      · show _ = _; kernel_rfl
      conv => lhs; whnf
      try (rw [hb2]; conv => lhs; whnf)
      cases hb4 : y3
      · replace h := ifF h (booF hb4); conv => lhs; whnf
        try (rw [hb4]; conv => lhs; whnf)
        try (rw [hb4]; conv => lhs; whnf)
        try (rw [hb4]; conv => lhs; whnf)
        try (rw [hb4]; conv => lhs; whnf)
        try (rw [hb4]; conv => lhs; whnf)
        obtain rfl := Option.some.inj h; show _ = _; kernel_rfl
      · replace h := ifT h hb4; conv => lhs; whnf
        try (rw [hb4]; conv => lhs; whnf)
        try (rw [hb4]; conv => lhs; whnf)
        try (rw [hb4]; conv => lhs; whnf)
        try (rw [hb4]; conv => lhs; whnf)
        obtain ⟨y5, h_y5, h⟩ := callK_inv h
        rw [cl_eq hcl (L_spec_l00Same a_0.Remap a_1.Remap h_y5)]
        rotate_left
        · show _ = _; kernel_rfl
        · show _ = _; kernel_rfl
        conv => lhs; whnf
        try (rw [hb4]; conv => lhs; whnf)
        obtain rfl := Option.some.inj h; show _ = _; kernel_rfl

noncomputable def p_impl_AvailableSpares (a_0 : BadTable) (a_1 : Int) : Option (Int × Int) :=
  callK (p_impl_ValidBadTable a_0) fun y1 =>
  if y1 = true then
    if (inR a_1 0 (IntKind.i64.wrap (a_0.Geo.Dies - 1))) = true then
      callK (p_impl_BadTable_available a_0 a_1) fun y4 =>
      some ((y4.length : Int), 0)
    else
      some (0, 2)
  else
    some (0, 1)

set_option maxHeartbeats 4000000 in
theorem L_impl_AvailableSpares (a_0 : BadTable) (a_1 : Int) {r : (Int × Int)} (h : p_impl_AvailableSpares a_0 a_1 = some r) : callL E 28 [.agg [IN a_0.Geo.Dies, IN a_0.Geo.Blocks, IN a_0.Geo.Pages, IN a_0.Spare, .d (.arr (a_0.Bad.map rI)), .d (.arr (a_0.Remap.map rI))], IN a_1] ([] : Fo) = some (.tup [IN r.1, IN r.2], ([] : Fo)) := by
  unfold p_impl_AvailableSpares at h
  refine callW (fu := Try.f28) rfl rfl rfl NN ?_
  intro lp cl hlp hcl
  conv => lhs; whnf
  obtain ⟨y1, h_y1, h⟩ := callK_inv h
  rw [cl_eq hcl (L_impl_ValidBadTable a_0 h_y1)]
  rotate_left
  · show _ = _; kernel_rfl
  · show _ = _; kernel_rfl
  conv => lhs; whnf
  cases hb2 : y1
  · replace h := ifF h (booF hb2); conv => lhs; whnf
    obtain rfl := Option.some.inj h; show _ = _; kernel_rfl
  · replace h := ifT h hb2; conv => lhs; whnf
    rw [cl_eq hcl (L_impl_within a_1 0 (IntKind.i64.wrap (a_0.Geo.Dies - 1)) (pl_within a_1 0 (IntKind.i64.wrap (a_0.Geo.Dies - 1))))]
    rotate_left
    · show _ = _; kernel_rfl
    · show _ = _; kernel_rfl
    conv => lhs; whnf
    cases hb3 : (inR a_1 0 (IntKind.i64.wrap (a_0.Geo.Dies - 1)))
    · replace h := ifF h (booF hb3); conv => lhs; whnf
      obtain rfl := Option.some.inj h; show _ = _; kernel_rfl
    · replace h := ifT h hb3; conv => lhs; whnf
      obtain ⟨y4, h_y4, h⟩ := callK_inv h
      rw [cl_eq hcl (L_impl_BadTable_available a_0 a_1 h_y4)]
      rotate_left
      · show _ = _; kernel_rfl
      · show _ = _; kernel_rfl
      conv => lhs; whnf
      try rw [len_of (l := y4) (r := rI)]
      obtain rfl := Option.some.inj h; show _ = _; kernel_rfl

noncomputable def p_spec_LogicalBlock (a_0 : BadTable) (a_1 : Int) : Option (Int × Int) :=
  callK (p_spec_ValidBadTable a_0) fun y1 =>
  if y1 = true then
    callK (p_spec_l07Count a_0.Geo) fun y3 =>
    if (inR a_1 0 (IntKind.i64.wrap (y3 - 1))) = true then
      callK (p_spec_l07Holder a_0 a_1) fun y5 =>
      if y5 < 0 then
        some (0, 3)
      else
        some (y5, 0)
    else
      some (0, 2)
  else
    some (0, 1)

set_option maxHeartbeats 4000000 in
theorem L_spec_LogicalBlock (a_0 : BadTable) (a_1 : Int) {r : (Int × Int)} (h : p_spec_LogicalBlock a_0 a_1 = some r) : callL E 29 [.agg [IN a_0.Geo.Dies, IN a_0.Geo.Blocks, IN a_0.Geo.Pages, IN a_0.Spare, .d (.arr (a_0.Bad.map rI)), .d (.arr (a_0.Remap.map rI))], IN a_1] ([] : Fo) = some (.tup [IN r.1, IN r.2], ([] : Fo)) := by
  unfold p_spec_LogicalBlock at h
  refine callW (fu := Try.f29) rfl rfl rfl NN ?_
  intro lp cl hlp hcl
  conv => lhs; whnf
  obtain ⟨y1, h_y1, h⟩ := callK_inv h
  rw [cl_eq hcl (L_spec_ValidBadTable a_0 h_y1)]
  rotate_left
  · show _ = _; kernel_rfl
  · show _ = _; kernel_rfl
  conv => lhs; whnf
  cases hb2 : y1
  · replace h := ifF h (booF hb2); conv => lhs; whnf
    obtain rfl := Option.some.inj h; show _ = _; kernel_rfl
  · replace h := ifT h hb2; conv => lhs; whnf
    obtain ⟨y3, h_y3, h⟩ := callK_inv h
    rw [cl_eq hcl (L_spec_l07Count a_0.Geo h_y3)]
    rotate_left
    · show _ = _; kernel_rfl
    · show _ = _; kernel_rfl
    conv => lhs; whnf
    rw [cl_eq hcl (L_spec_l00In a_1 0 (IntKind.i64.wrap (y3 - 1)) (pl_l00In a_1 0 (IntKind.i64.wrap (y3 - 1))))]
    rotate_left
    · show _ = _; kernel_rfl
    · show _ = _; kernel_rfl
    conv => lhs; whnf
    cases hb4 : (inR a_1 0 (IntKind.i64.wrap (y3 - 1)))
    · replace h := ifF h (booF hb4); conv => lhs; whnf
      obtain rfl := Option.some.inj h; show _ = _; kernel_rfl
    · replace h := ifT h hb4; conv => lhs; whnf
      obtain ⟨y5, h_y5, h⟩ := callK_inv h
      rw [cl_eq hcl (L_spec_l07Holder a_0 a_1 h_y5)]
      rotate_left
      · show _ = _; kernel_rfl
      · show _ = _; kernel_rfl
      conv => lhs; whnf
      cases hb6 : (decide (y5 < 0))
      · replace h := ifF h (decF hb6); conv => lhs; whnf
        obtain rfl := Option.some.inj h; show _ = _; kernel_rfl
      · replace h := ifT h (decT hb6); conv => lhs; whnf
        obtain rfl := Option.some.inj h; show _ = _; kernel_rfl

noncomputable def p_spec_l07Available' (a_0 : BadTable) (a_1 : Int) : Option (List Int) :=
  iterK (fun ((v1, v2) : (Int × (List Int))) (nx3 : (Int × (List Int)) → Option _) =>
    if v1 < (IntKind.i64.wrap ((IntKind.i64.wrap (a_1 + 1)) * a_0.Geo.Blocks)) then
      callK (p_spec_l00Has a_0.Bad v1) fun y5 =>
      if y5 = true then
        nx3 ((IntKind.i64.wrap (v1 + 1)), v2)
      else
        callK (p_spec_l00Has a_0.Remap v1) fun y7 =>
        if y7 = true then
          nx3 ((IntKind.i64.wrap (v1 + 1)), v2)
        else
          grd (appOk (v2.length + 1) 8 = true) <|
          nx3 ((IntKind.i64.wrap (v1 + 1)), (v2 ++ ([v1] : List Int)))
    else
      some v2) NN ((IntKind.i64.wrap ((IntKind.i64.wrap ((IntKind.i64.wrap (a_1 + 1)) * a_0.Geo.Blocks)) - a_0.Spare)), ([] : List Int))

set_option maxHeartbeats 4000000 in
theorem L_spec_l07Available' (a_0 : BadTable) (a_1 : Int) {r : (List Int)} (h : p_spec_l07Available' a_0 a_1 = some r) : callL E 119 [.agg [IN a_0.Geo.Dies, IN a_0.Geo.Blocks, IN a_0.Geo.Pages, IN a_0.Spare, .d (.arr (a_0.Bad.map rI)), .d (.arr (a_0.Remap.map rI))], IN a_1] ([] : Fo) = some (.sl 0, ([some (.arr 2 1 (r.map rI))] : Fo)) := by
  unfold p_spec_l07Available' at h
  refine callW (fu := Try.f119) rfl rfl rfl NN ?_
  intro lp cl hlp hcl
  conv => lhs; whnf
  refine loop_iter hlp (fun ((v1, v2) : (Int × (List Int))) => ([.dead, IN a_1, .bp 0 0, .dead, .dead, .sl 1, IN v1] ++ List.replicate 37 .dead : List V)) (fun ((v1, v2) : (Int × (List Int))) => ([some (.box [IN a_0.Geo.Dies, IN a_0.Geo.Blocks, IN a_0.Geo.Pages, IN a_0.Spare, .d (.arr (a_0.Bad.map rI)), .d (.arr (a_0.Remap.map rI))]), some (.arr 2 1 (v2.map rI))] : Fo)) (fun (r : (List Int)) => ((.sl 0 : V), ([some (.arr 2 1 (r.map rI))] : Fo))) ?_ ((IntKind.i64.wrap ((IntKind.i64.wrap ((IntKind.i64.wrap (a_1 + 1)) * a_0.Geo.Blocks)) - a_0.Spare)), ([] : List Int)) _ (fun kk => by kernel_rfl) h
  clear h
  rintro next_nx3 nx3 hnx3 ⟨v1, v2⟩ r h
  try dsimp only at h
  conv => lhs; whnf
  cases hb4 : (decide (v1 < (IntKind.i64.wrap ((IntKind.i64.wrap (a_1 + 1)) * a_0.Geo.Blocks))))
  · replace h := ifF h (decF hb4); conv => lhs; whnf
    obtain rfl := Option.some.inj h; show _ = _; kernel_rfl
  · replace h := ifT h (decT hb4); conv => lhs; whnf
    obtain ⟨y5, h_y5, h⟩ := callK_inv h
    rw [cl_eq hcl (L_spec_l00Has a_0.Bad v1 h_y5)]
    rotate_left
    · show _ = _; kernel_rfl
    · show _ = _; kernel_rfl
    conv => lhs; whnf
    cases hb6 : y5
    · replace h := ifF h (booF hb6); conv => lhs; whnf
      try (rw [hb6]; conv => lhs; whnf)
      try (rw [hb6]; conv => lhs; whnf)
      try (rw [hb6]; conv => lhs; whnf)
      obtain ⟨y7, h_y7, h⟩ := callK_inv h
      rw [cl_eq hcl (L_spec_l00Has a_0.Remap v1 h_y7)]
      rotate_left
      · show _ = _; kernel_rfl
      · show _ = _; kernel_rfl
      conv => lhs; whnf
      try (rw [hb6]; conv => lhs; whnf)
      try (rw [hb6]; conv => lhs; whnf)
      cases hb8 : y7
      · replace h := ifF h (booF hb8); conv => lhs; whnf
        obtain ⟨hg9, h⟩ := grd_inv h
        rw [app_eq hg9 ?h1 ?h2]
        case h1 => first | exact rfl | (simp only [List.length_map, List.length_cons, List.length_nil]; done) | (rw [List.length_map]; rfl)
        case h2 => exact rfl
        conv => lhs; whnf
        first | (rw [map_app_of (r := rI) (l := v2) (m := ([v1] : List Int)) ?hh]; case hh => exact rfl) | skip
        exact hnx3 _ _ _ _ (fun kk => by kernel_rfl) h
      · replace h := ifT h hb8; conv => lhs; whnf
        exact hnx3 _ _ _ _ (fun kk => by kernel_rfl) h
    · replace h := ifT h hb6; conv => lhs; whnf
      try (rw [hb6]; conv => lhs; whnf)
      try (rw [hb6]; conv => lhs; whnf)
      try (rw [hb6]; conv => lhs; whnf)
      try (rw [hb6]; conv => lhs; whnf)
      try (rw [hb6]; conv => lhs; whnf)
      exact hnx3 _ _ _ _ (fun kk => by kernel_rfl) h

noncomputable def p_spec_AvailableSpares (a_0 : BadTable) (a_1 : Int) : Option (Int × Int) :=
  callK (p_spec_ValidBadTable a_0) fun y1 =>
  if y1 = true then
    if (inR a_1 0 (IntKind.i64.wrap (a_0.Geo.Dies - 1))) = true then
      callK (p_spec_l07Available' a_0 a_1) fun y4 =>
      some ((y4.length : Int), 0)
    else
      some (0, 2)
  else
    some (0, 1)

set_option maxHeartbeats 4000000 in
theorem L_spec_AvailableSpares (a_0 : BadTable) (a_1 : Int) {r : (Int × Int)} (h : p_spec_AvailableSpares a_0 a_1 = some r) : callL E 30 [.agg [IN a_0.Geo.Dies, IN a_0.Geo.Blocks, IN a_0.Geo.Pages, IN a_0.Spare, .d (.arr (a_0.Bad.map rI)), .d (.arr (a_0.Remap.map rI))], IN a_1] ([] : Fo) = some (.tup [IN r.1, IN r.2], ([] : Fo)) := by
  unfold p_spec_AvailableSpares at h
  refine callW (fu := Try.f30) rfl rfl rfl NN ?_
  intro lp cl hlp hcl
  conv => lhs; whnf
  obtain ⟨y1, h_y1, h⟩ := callK_inv h
  rw [cl_eq hcl (L_spec_ValidBadTable a_0 h_y1)]
  rotate_left
  · show _ = _; kernel_rfl
  · show _ = _; kernel_rfl
  conv => lhs; whnf
  cases hb2 : y1
  · replace h := ifF h (booF hb2); conv => lhs; whnf
    obtain rfl := Option.some.inj h; show _ = _; kernel_rfl
  · replace h := ifT h hb2; conv => lhs; whnf
    rw [cl_eq hcl (L_spec_l00In a_1 0 (IntKind.i64.wrap (a_0.Geo.Dies - 1)) (pl_l00In a_1 0 (IntKind.i64.wrap (a_0.Geo.Dies - 1))))]
    rotate_left
    · show _ = _; kernel_rfl
    · show _ = _; kernel_rfl
    conv => lhs; whnf
    cases hb3 : (inR a_1 0 (IntKind.i64.wrap (a_0.Geo.Dies - 1)))
    · replace h := ifF h (booF hb3); conv => lhs; whnf
      obtain rfl := Option.some.inj h; show _ = _; kernel_rfl
    · replace h := ifT h hb3; conv => lhs; whnf
      obtain ⟨y4, h_y4, h⟩ := callK_inv h
      rw [cl_eq hcl (L_spec_l07Available' a_0 a_1 h_y4)]
      rotate_left
      · show _ = _; kernel_rfl
      · show _ = _; kernel_rfl
      conv => lhs; whnf
      try rw [len_of (l := y4) (r := rI)]
      obtain rfl := Option.some.inj h; show _ = _; kernel_rfl

noncomputable def p_laws_FnSpares (a_0 : List Int) : Option Bool :=
  if (a_0.length : Int) > 400 then
    some true
  else
    callK (p_spec_DrawRetireBlock a_0) fun y2 =>
    callK (p_impl_RetireBlock y2.1 y2.2) fun y3 =>
    callK (p_spec_RetireBlock' y2.1 y2.2) fun y4 =>
    if ¬ y3.2 = y4.2.2.2.2.1 then
      some false
    else
      callK (p_spec_SameBadTable y3.1 (⟨⟨y4.1, y4.2.1, y4.2.2.1⟩, y4.2.2.2.1, y4.2.2.2.2.2.1, y4.2.2.2.2.2.2⟩ : BadTable)) fun y6 =>
      if y6 = true then
        if ¬ y3.2 = 0 then
          some true
        else
          grd (y2.1.Geo.Blocks ≠ 0) <|
          grd (y2.1.Geo.Dies < 4611686018427387904) <|
          forI y2.1.Geo.Dies (fun (i21 : Nat) (_ : Unit) (nx22 : Unit → Option _) =>
            callK (p_impl_AvailableSpares y2.1 (i21 : Int)) fun y23 =>
            callK (p_impl_AvailableSpares y3.1 (i21 : Int)) fun y24 =>
            if ¬ y23.2 = 0 then
              some false
            else
              if ¬ y24.2 = 0 then
                some false
              else
                if ¬ (i21 : Int) = (IntKind.i64.wrap (Int.tdiv y2.2 y2.1.Geo.Blocks)) then
                  if ¬ y23.1 = y24.1 then
                    some false
                  else
                    if y23.1 < y24.1 then
                      some false
                    else
                      if y23.1 > (IntKind.i64.wrap (y24.1 + 1)) then
                        some false
                      else
                        nx22 ()
                else
                  if y23.1 < y24.1 then
                    some false
                  else
                    if y23.1 > (IntKind.i64.wrap (y24.1 + 1)) then
                      some false
                    else
                      nx22 ()) () (fun (_ : Unit) =>
            callK (p_spec_LogicalBlock y2.1 y2.2) fun y33 =>
            callK (p_spec_AvailableSpares y2.1 (IntKind.i64.wrap (Int.tdiv y2.2 y2.1.Geo.Blocks))) fun y34 =>
            callK (p_impl_AvailableSpares y3.1 (IntKind.i64.wrap (Int.tdiv y2.2 y2.1.Geo.Blocks))) fun y35 =>
            if ¬ y33.2 = 0 then
              some true
            else
              some (y34.1 == (IntKind.i64.wrap (y35.1 + 1))))
      else
        some false

set_option maxHeartbeats 4000000 in
theorem L_laws_FnSpares (a_0 : List Int) {r : Bool} (h : p_laws_FnSpares a_0 = some r) : callL E 5 [.d (.arr (a_0.map rU))] ([] : Fo) = some (BO r, ([] : Fo)) := by
  unfold p_laws_FnSpares at h
  refine callW (fu := Try.f5) rfl rfl rfl NN ?_
  intro lp cl hlp hcl
  conv => lhs; whnf
  try rw [len_of (l := a_0) (r := rU)]
  cases hb1 : (decide ((a_0.length : Int) > 400))
  · replace h := ifF h (decF hb1); conv => lhs; whnf
    obtain ⟨y2, h_y2, h⟩ := callK_inv h
    rw [cl_eq hcl (L_spec_DrawRetireBlock a_0 h_y2)]
    rotate_left
    · show _ = _; kernel_rfl
    · show _ = _; kernel_rfl
    conv => lhs; whnf
    obtain ⟨y3, h_y3, h⟩ := callK_inv h
    rw [cl_eq hcl (L_impl_RetireBlock y2.1 y2.2 h_y3)]
    rotate_left
    · show _ = _; kernel_rfl
    · show _ = _; kernel_rfl
    conv => lhs; whnf
    obtain ⟨y4, h_y4, h⟩ := callK_inv h
    rw [cl_eq hcl (L_spec_RetireBlock' y2.1 y2.2 h_y4)]
    rotate_left
    · show _ = _; kernel_rfl
    · show _ = _; kernel_rfl
    conv => lhs; whnf
    cases hb5 : (y3.2 != y4.2.2.2.2.1)
    · replace h := ifF h ((fun h => not_not_intro (bneF h)) hb5); conv => lhs; whnf
      try (rw [hb5]; conv => lhs; whnf)
      try (rw [hb5]; conv => lhs; whnf)
      obtain ⟨y6, h_y6, h⟩ := callK_inv h
      rw [cl_eq hcl (L_spec_SameBadTable y3.1 (⟨⟨y4.1, y4.2.1, y4.2.2.1⟩, y4.2.2.2.1, y4.2.2.2.2.2.1, y4.2.2.2.2.2.2⟩ : BadTable) h_y6)]
      rotate_left
      · show _ = _; kernel_rfl
      · show _ = _; kernel_rfl
      conv => lhs; whnf
      try (rw [hb5]; conv => lhs; whnf)
      try (rw [hb5]; conv => lhs; whnf)
      cases hb7 : y6
      · replace h := ifF h (booF hb7); conv => lhs; whnf
        obtain rfl := Option.some.inj h; show _ = _; kernel_rfl
      · replace h := ifT h hb7; conv => lhs; whnf
        cases hb8 : (y3.2 != 0)
        · replace h := ifF h ((fun h => not_not_intro (bneF h)) hb8); conv => lhs; whnf
          obtain ⟨hg37, h⟩ := grd_inv h
          rw [quo_run _ _ _ _ hg37]
          conv => lhs; whnf
          obtain ⟨hl_i21, h⟩ := grd_inv h
          refine loop_forI hlp (n := y2.1.Geo.Dies) hl_i21 (fun (i21 : Nat) (_ : Unit) => ([.dead, .dead, .dead, .bp 0 0, IN y2.2, .bp 1 0, .dead, .dead, .dead, IN (IntKind.i64.wrap (Int.tdiv y2.2 y2.1.Geo.Blocks)), IN (i21 : Int)] ++ List.replicate 118 .dead : List V)) (fun (i21 : Nat) (_ : Unit) => ([some (.box [IN y2.1.Geo.Dies, IN y2.1.Geo.Blocks, IN y2.1.Geo.Pages, IN y2.1.Spare, .d (.arr (y2.1.Bad.map rI)), .d (.arr (y2.1.Remap.map rI))]), some (.box [IN y3.1.Geo.Dies, IN y3.1.Geo.Blocks, IN y3.1.Geo.Pages, IN y3.1.Spare, .d (.arr (y3.1.Bad.map rI)), .d (.arr (y3.1.Remap.map rI))])] : Fo)) (fun (r : Bool) => ((BO r : V), ([] : Fo))) ?_ ?_ () _ (fun kk => by kernel_rfl) h
          · clear h
            rintro next_nx22 nx22 i21 hi_i21 hnx22 ⟨⟩ r h
            try dsimp only at h
            have hn_i21 : i21 < 4611686018427387904 := by omega
            have hd_i21 : (decide ((i21 : Int) < y2.1.Geo.Dies)) = true := decide_eq_true (by omega)
            conv => lhs; whnf
            rw [hd_i21]
            conv => lhs; whnf
            obtain ⟨y23, h_y23, h⟩ := callK_inv h
            rw [cl_eq hcl (L_impl_AvailableSpares y2.1 (i21 : Int) h_y23)]
            rotate_left
            · show _ = _; kernel_rfl
            · show _ = _; kernel_rfl
            conv => lhs; whnf
            obtain ⟨y24, h_y24, h⟩ := callK_inv h
            rw [cl_eq hcl (L_impl_AvailableSpares y3.1 (i21 : Int) h_y24)]
            rotate_left
            · show _ = _; kernel_rfl
            · show _ = _; kernel_rfl
            conv => lhs; whnf
            cases hb25 : (y23.2 != 0)
            · replace h := ifF h ((fun h => not_not_intro (bneF h)) hb25); conv => lhs; whnf
              try (rw [hb25]; conv => lhs; whnf)
              try (rw [hb25]; conv => lhs; whnf)
              cases hb26 : (y24.2 != 0)
              · replace h := ifF h ((fun h => not_not_intro (bneF h)) hb26); conv => lhs; whnf
                try (rw [hb26]; conv => lhs; whnf)
                try (rw [hb26]; conv => lhs; whnf)
                try (rw [hb26]; conv => lhs; whnf)
                cases hb27 : ((i21 : Int) != (IntKind.i64.wrap (Int.tdiv y2.2 y2.1.Geo.Blocks)))
                · replace h := ifF h ((fun h => not_not_intro (bneF h)) hb27); conv => lhs; whnf
                  try (rw [hb27]; conv => lhs; whnf)
                  try (rw [hb27]; conv => lhs; whnf)
                  try (rw [hb26]; conv => lhs; whnf)
                  try (rw [hb27]; conv => lhs; whnf)
                  try (rw [hb26]; conv => lhs; whnf)
                  cases hb31 : (decide (y23.1 < y24.1))
                  · replace h := ifF h (decF hb31); conv => lhs; whnf
                    try (rw [hb31]; conv => lhs; whnf)
                    try (rw [hb31]; conv => lhs; whnf)
                    try (rw [hb31]; conv => lhs; whnf)
                    try (rw [hb31]; conv => lhs; whnf)
                    cases hb32 : (decide (y23.1 > (IntKind.i64.wrap (y24.1 + 1))))
                    · replace h := ifF h (decF hb32); conv => lhs; whnf
                      rw [wrap_nat i21 (by have := hn_i21; omega)]
                      exact hnx22 _ _ _ _ (fun kk => by kernel_rfl) h
                    · replace h := ifT h (decT hb32); conv => lhs; whnf
                      obtain rfl := Option.some.inj h; show _ = _; kernel_rfl
                  · replace h := ifT h (decT hb31); conv => lhs; whnf
                    try (rw [hb31]; conv => lhs; whnf)
                    try (rw [hb31]; conv => lhs; whnf)
                    try (rw [hb31]; conv => lhs; whnf)
                    try (rw [hb31]; conv => lhs; whnf)
                    obtain rfl := Option.some.inj h; show _ = _; kernel_rfl
                · replace h := ifT h (bneT hb27); conv => lhs; whnf
                  try (rw [hb27]; conv => lhs; whnf)
                  try (rw [hb27]; conv => lhs; whnf)
                  try (rw [hb26]; conv => lhs; whnf)
                  try (rw [hb27]; conv => lhs; whnf)
                  try (rw [hb26]; conv => lhs; whnf)
                  cases hb28 : (y23.1 != y24.1)
                  · replace h := ifF h ((fun h => not_not_intro (bneF h)) hb28); conv => lhs; whnf
                    try (rw [hb28]; conv => lhs; whnf)
                    try (rw [hb28]; conv => lhs; whnf)
                    try (rw [hb28]; conv => lhs; whnf)
                    cases hb29 : (decide (y23.1 < y24.1))
                    · replace h := ifF h (decF hb29); conv => lhs; whnf
                      try (rw [hb29]; conv => lhs; whnf)
                      try (rw [hb29]; conv => lhs; whnf)
                      try (rw [hb29]; conv => lhs; whnf)
                      try (rw [hb29]; conv => lhs; whnf)
                      cases hb30 : (decide (y23.1 > (IntKind.i64.wrap (y24.1 + 1))))
                      · replace h := ifF h (decF hb30); conv => lhs; whnf
                        rw [wrap_nat i21 (by have := hn_i21; omega)]
                        exact hnx22 _ _ _ _ (fun kk => by kernel_rfl) h
                      · replace h := ifT h (decT hb30); conv => lhs; whnf
                        obtain rfl := Option.some.inj h; show _ = _; kernel_rfl
                    · replace h := ifT h (decT hb29); conv => lhs; whnf
                      try (rw [hb29]; conv => lhs; whnf)
                      try (rw [hb29]; conv => lhs; whnf)
                      try (rw [hb29]; conv => lhs; whnf)
                      try (rw [hb29]; conv => lhs; whnf)
                      obtain rfl := Option.some.inj h; show _ = _; kernel_rfl
                  · replace h := ifT h (bneT hb28); conv => lhs; whnf
                    try (rw [hb28]; conv => lhs; whnf)
                    try (rw [hb28]; conv => lhs; whnf)
                    try (rw [hb28]; conv => lhs; whnf)
                    obtain rfl := Option.some.inj h; show _ = _; kernel_rfl
              · replace h := ifT h (bneT hb26); conv => lhs; whnf
                try (rw [hb26]; conv => lhs; whnf)
                try (rw [hb26]; conv => lhs; whnf)
                try (rw [hb26]; conv => lhs; whnf)
                try (rw [hb26]; conv => lhs; whnf)
                try (rw [hb26]; conv => lhs; whnf)
                obtain rfl := Option.some.inj h; show _ = _; kernel_rfl
            · replace h := ifT h (bneT hb25); conv => lhs; whnf
              try (rw [hb25]; conv => lhs; whnf)
              try (rw [hb25]; conv => lhs; whnf)
              obtain rfl := Option.some.inj h; show _ = _; kernel_rfl
          · clear h
            rintro next_nx22 ⟨⟩ r h
            try dsimp only at h
            have hd_i21 : (decide (((Int.toNat y2.1.Geo.Dies) : Int) < y2.1.Geo.Dies)) = false := decide_eq_false (by omega)
            conv => lhs; whnf
            rw [hd_i21]
            conv => lhs; whnf
            obtain ⟨y33, h_y33, h⟩ := callK_inv h
            rw [cl_eq hcl (L_spec_LogicalBlock y2.1 y2.2 h_y33)]
            rotate_left
            · show _ = _; kernel_rfl
            · show _ = _; kernel_rfl
            conv => lhs; whnf
            obtain ⟨y34, h_y34, h⟩ := callK_inv h
            rw [cl_eq hcl (L_spec_AvailableSpares y2.1 (IntKind.i64.wrap (Int.tdiv y2.2 y2.1.Geo.Blocks)) h_y34)]
            rotate_left
            · show _ = _; kernel_rfl
            · show _ = _; kernel_rfl
            conv => lhs; whnf
            obtain ⟨y35, h_y35, h⟩ := callK_inv h
            rw [cl_eq hcl (L_impl_AvailableSpares y3.1 (IntKind.i64.wrap (Int.tdiv y2.2 y2.1.Geo.Blocks)) h_y35)]
            rotate_left
            · show _ = _; kernel_rfl
            · show _ = _; kernel_rfl
            conv => lhs; whnf
            cases hb36 : (y33.2 != 0)
            · replace h := ifF h ((fun h => not_not_intro (bneF h)) hb36); conv => lhs; whnf
              try (rw [hb36]; conv => lhs; whnf)
              try (rw [hb36]; conv => lhs; whnf)
              try (rw [hb36]; conv => lhs; whnf)
              try (rw [hb36]; conv => lhs; whnf)
              obtain rfl := Option.some.inj h; show _ = _; kernel_rfl
            · replace h := ifT h (bneT hb36); conv => lhs; whnf
              try (rw [hb36]; conv => lhs; whnf)
              try (rw [hb36]; conv => lhs; whnf)
              try (rw [hb36]; conv => lhs; whnf)
              try (rw [hb36]; conv => lhs; whnf)
              obtain rfl := Option.some.inj h; show _ = _; kernel_rfl
        · replace h := ifT h (bneT hb8); conv => lhs; whnf
          obtain rfl := Option.some.inj h; show _ = _; kernel_rfl
    · replace h := ifT h (bneT hb5); conv => lhs; whnf
      try (rw [hb5]; conv => lhs; whnf)
      try (rw [hb5]; conv => lhs; whnf)
      try (rw [hb5]; conv => lhs; whnf)
      try (rw [hb5]; conv => lhs; whnf)
      obtain rfl := Option.some.inj h; show _ = _; kernel_rfl
  · replace h := ifT h (decT hb1); conv => lhs; whnf
    obtain rfl := Option.some.inj h; show _ = _; kernel_rfl
/-- slices.DeleteFunc, as it is printed for a condition f; z is the element that fills the end. -/
noncomputable def delF {α : Type} (z : α) (f : α → Option Bool) (a_0 : List α) : Option (List α) :=
  callK (grd (a_0.length < 4611686018427387904) <| forK a_0 (fun (i6 : Nat) x8 (_ : Unit) (nx7 : Unit → Option _) => callK (f x8) fun y9 => if y9 = true then some (i6 : Int) else nx7 ()) () (fun (_ : Unit) => some (-1))) fun y1 =>
  if y1 = (-1) then
    some a_0
  else
    iterK (fun ((v3, v4, v5) : (Int × Int × (List α))) (nx6 : (Int × Int × (List α)) → Option _) =>
      if v4 < (v5.length : Int) then
        getK v5 v4 fun x8 =>
        callK (f x8) fun y9 =>
        if y9 = true then
          nx6 (v3, (IntKind.i64.wrap (v4 + 1)), v5)
        else
          getK v5 v3 fun x11 =>
          nx6 ((IntKind.i64.wrap (v3 + 1)), (IntKind.i64.wrap (v4 + 1)), (v5.set (Int.toNat v3) x8))
      else
        grd (0 ≤ v3 ∧ v3 < (v5.length : Int)) <|
        grd (0 ≤ v3 ∧ v3 ≤ ((v5.take (Int.toNat v3) ++ List.replicate (v5.length - (Int.toNat v3)) z).length : Int)) <|
        some ((v5.take (Int.toNat v3) ++ List.replicate (v5.length - (Int.toNat v3)) z).take (Int.toNat v3))) NN (y1, (IntKind.i64.wrap (y1 + 1)), a_0)
theorem forGo_congr {α σ R : Type} {f g : Nat → α → σ → (σ → Option R) → Option R} {k : σ → Option R} : ∀ (l : List α) (i : Nat) (s : σ), (∀ x ∈ l, ∀ i s nx, f i x s nx = g i x s nx) → forGo f k i l s = forGo g k i l s
  | [], i, s, h => rfl
  | x :: l, i, s, h => by
    rw [forGo_cons, forGo_cons, h x (by simp), show forGo f k (i + 1) l = forGo g k (i + 1) l from funext fun s => forGo_congr l (i + 1) s fun y hy => h y (by simp [hy])]
theorem idx_mem {α : Type} {f : α → Option Bool} {p : α → Bool} (l : List α) (hp : ∀ x ∈ l, f x = some (p x)) :
    forK l (fun (i : Nat) x (s : Unit) nx => callK (f x) fun y => if y = true then some (i : Int) else nx s) () (fun _ => some (-1)) = some (idxP p l) := by
  refine Eq.trans ?_ (forK_idx (f := fun x => some (p x)) (p := p) (fun x => rfl) l)
  exact forGo_congr l 0 () fun x hx i s nx => by rw [hp x hx]
/-- What is left: those for which the condition is false. -/
theorem delF_ok {α : Type} (z : α) {f : α → Option Bool} {p : α → Bool} (l : List α) (hl : l.length ≤ 1000000) (hp : ∀ x ∈ l, f x = some (p x)) : delF z f l = some (l.filter fun x => !p x) := by
  unfold delF
  rw [grd_pos (by omega), idx_mem l hp, callK_some]
  unfold idxP
  cases hi : l.findIdx? p with
  | none =>
    rw [List.findIdx?_eq_none_iff] at hi
    rw [if_pos rfl]
    congr 1
    refine (List.filter_eq_self.mpr fun x hx => ?_).symm
    simp [hi x hx]
  | some j =>
    obtain ⟨hj, h1, h2⟩ := List.findIdx?_eq_some_iff_getElem.mp hi
    dsimp only
    rw [if_neg (by omega), wrap_sm _ (by omega) (by omega)]
    have hfj : (l.take (j + 1)).filter (fun x => !p x) = l.take j := by
      rw [List.take_succ_eq_append_getElem hj, List.filter_append]
      have a : (l.take j).filter (fun x => !p x) = l.take j := List.filter_eq_self.mpr fun x hx => by
        obtain ⟨i, hi1, rfl⟩ := List.mem_take_iff_getElem.mp hx
        have := h2 i (by omega)
        simpa using this
      rw [a]; simp [h1]
    refine iterK_rule (fun d (s : Int × Int × List α) => ∃ w r : Nat, s.1 = w ∧ s.2.1 = r ∧ w < r ∧ r ≤ l.length ∧ d = l.length - r ∧ s.2.2.length = l.length ∧ s.2.2.take w = (l.take r).filter (fun x => !p x) ∧ s.2.2.drop r = l.drop r) ?_ (l.length - (j + 1)) _ (by unfold NN; omega)
      ⟨j, j + 1, rfl, by dsimp only; omega, by omega, by omega, rfl, rfl, hfj.symm, rfl⟩
    rintro d ⟨v3, v4, v5⟩ ⟨w, r, e1, e2, e3, e4, e5, e6, e7, e8⟩ nx hnx
    dsimp only at e1 e2 e6 e7 e8 hnx ⊢
    subst e1 e2
    have hfl : ((l.take r).filter (fun x => !p x)).length = w := by
      rw [← e7, List.length_take]; omega
    by_cases hr : r < l.length
    · have hx : v5[r]'(by omega) = l[r] := by
        have a := congrArg (fun t => t[0]?) e8
        simp [hr, e6] at a
        exact a
      rw [if_pos (by omega), getK_lt (by omega), hx, hp _ (List.getElem_mem hr), callK_some]
      have hs : (l.take (r + 1)).filter (fun x => !p x) = (l.take r).filter (fun x => !p x) ++ (if p l[r] = true then [] else [l[r]]) := by
        rw [List.take_succ_eq_append_getElem hr, List.filter_append]
        congr 1
        cases hq : p l[r] <;> simp [hq]
      have hd : ∀ u : List α, u.length = l.length → u.drop r = l.drop r → u.drop (r + 1) = l.drop (r + 1) := fun u _ h => by
        have := congrArg (List.drop 1) h
        simpa [List.drop_drop] using this
      by_cases hq : p l[r] = true
      · rw [if_pos hq, wrap_sm _ (by omega) (by omega)]
        exact hnx _ _ (by omega) ⟨w, r + 1, rfl, by dsimp only; omega, by omega, by omega, rfl, e6, by dsimp only; rw [hs, if_pos hq, List.append_nil, e7], hd _ e6 e8⟩
      · rw [if_neg hq, getK_lt (by omega), wrap_sm _ (by omega) (by omega), wrap_sm _ (by omega) (by omega), Int.toNat_natCast]
        refine hnx (l.length - (r + 1)) _ (by omega) ⟨w + 1, r + 1, by dsimp only; omega, by dsimp only; omega, by omega, by omega, rfl, by simpa using e6, ?_, ?_⟩
        · dsimp only
          rw [hs, if_neg hq, ← e7, List.take_succ_eq_append_getElem (by simp; omega), List.take_set_of_le (by omega)]
          simp
        · dsimp only
          rw [List.drop_set_of_lt (by omega)]
          exact hd _ e6 e8
    · have hrl : r = l.length := by omega
      subst hrl
      rw [if_neg (by omega), grd_pos (by omega), grd_pos (by simp; omega), Int.toNat_natCast, List.take_append_of_le_length (by simp; omega), List.take_take, Nat.min_self, e7, List.take_length]

theorem forK_allI {α R : Type} {l : List α} {f : Nat → α → Unit → (Unit → Option R) → Option R} {k : Unit → Option R} (p : Nat → Bool) (b : Option R) (h : ∀ (i : Nat) (hi : i < l.length) nx, f i l[i] () nx = if p i = true then nx () else b) :
    forK l f () k = if (List.range l.length).all p = true then k () else b := by
  refine forK_rule (fun i _ => ∀ j, j < i → p j = true) (fun i hi s hs nx hnx => ?_) (fun s hs => ?_) () (fun j hj => by omega)
  · rw [h i hi]
    cases hp : p i
    · have : (List.range l.length).all p = false := by
        rw [List.all_eq_false]
        exact ⟨i, List.mem_range.mpr hi, by simp [hp]⟩
      rw [this]; rfl
    · rw [if_pos rfl]
      refine hnx () fun j hj => ?_
      by_cases e : j = i
      · subst e; exact hp
      · exact hs j (by omega)
  · have : (List.range l.length).all p = true := List.all_eq_true.mpr fun i hi => hs i (List.mem_range.mp hi)
    rw [this]; rfl
theorem getK_N {α R : Type} {c : List α} {i : Nat} (z : α) (h : i < c.length) (k : α → Option R) : getK c (i : Int) k = k (c.getD i z) := by
  rw [getK_lt h]; congr 1; simp [List.getD, h]

/-! ### The first place of a number -/
def ixOf (l : List Int) (x : Int) : Int := match l.findIdx? fun y => y == x with
  | some j => (j : Int)
  | none => -1
theorem forGo_ix {R : Type} {f : Nat → Int → Unit → (Unit → Option R) → Option R} {x : Int} {g : Int → R} (hf : ∀ i y nx, f i y () nx = if y = x then some (g i) else nx ()) (k : Option R) : ∀ (l : List Int) (n : Nat), forGo f (fun _ => k) n l () =
    match l.findIdx? fun y => y == x with
    | some j => some (g ((n + j : Nat) : Int))
    | none => k
  | [], n => rfl
  | y :: l, n => by
    rw [forGo_cons, hf, List.findIdx?_cons]
    by_cases h : y = x
    · subst h; simp
    · rw [if_neg h, forGo_ix hf k l (n + 1), show (y == x) = false by simpa using h]
      simp only [Bool.false_eq_true, if_false]
      cases l.findIdx? fun y => y == x with
      | none => rfl
      | some j => simp only [Option.map_some]; congr 2; congr 1; omega
theorem forK_ix {f : Nat → Int → Unit → (Unit → Option Int) → Option Int} {x : Int} {l : List Int} (hf : ∀ i y nx, f i y () nx = if y = x then some (i : Int) else nx ()) : forK l f () (fun _ => some (-1)) = some (ixOf l x) := by
  unfold forK
  rw [forGo_ix (g := fun i => i) hf (some (-1)) l 0]
  unfold ixOf
  cases l.findIdx? fun y => y == x with
  | none => rfl
  | some j => simp
theorem ix_lo (l : List Int) (x : Int) : -1 ≤ ixOf l x := by
  unfold ixOf
  split <;> omega
theorem ix_mem {l : List Int} {x : Int} : 0 ≤ ixOf l x ↔ x ∈ l := by
  unfold ixOf
  split
  · rename_i j hj
    rw [List.findIdx?_eq_some_iff_getElem] at hj
    obtain ⟨h1, h2, _⟩ := hj
    have : l[j] = x := by simpa using h2
    exact ⟨fun _ => this ▸ List.getElem_mem h1, fun _ => by omega⟩
  · rename_i hj
    rw [List.findIdx?_eq_none_iff] at hj
    exact ⟨fun h => by omega, fun h => by have := hj x h; simp at this⟩
theorem ix_get {l : List Int} {x : Int} (h : 0 ≤ ixOf l x) : ∃ j : Nat, ixOf l x = j ∧ ∃ hj : j < l.length, l[j] = x ∧ ∀ k (hk : k < j), l[k]'(by omega) ≠ x := by
  unfold ixOf at h ⊢
  split at h
  · rename_i j hj
    rw [List.findIdx?_eq_some_iff_getElem] at hj
    obtain ⟨h1, h2, h3⟩ := hj
    refine ⟨j, rfl, h1, by simpa using h2, fun k hk => by simpa using h3 k hk⟩
  · omega

theorem adj_up : ∀ {l : List Int}, (∀ i, ∀ (h : i + 1 < l.length), l[i] < l[i + 1]) → l.Pairwise (· < ·)
  | [], _ => .nil
  | [_], _ => by simp
  | x :: y :: l, h => by
    have ih := adj_up (l := y :: l) fun i hi => by have := h (i + 1) (by simpa using hi); simpa using this
    refine List.pairwise_cons.mpr ⟨fun z hz => ?_, ih⟩
    have h0 : x < y := by have := h 0 (by simp); simpa using this
    rcases List.mem_cons.mp hz with rfl | hz
    · exact h0
    · have := (List.pairwise_cons.mp ih).1 z hz; omega

/-! ### Small words -/
theorem noB {P : Prop} (h : ¬ P) : ∃ r, some false = some r ∧ (r = true ↔ P) := ⟨false, rfl, by simp [h]⟩
theorem any_not {α : Type} (l : List α) (p : α → Bool) : (!l.any fun x => !p x) = l.all p := by
  induction l with
  | nil => rfl
  | cons x l ih => rw [List.any_cons, List.all_cons, ← ih]; cases p x <;> simp
theorem pl_index (l : List Int) (x : Int) (h : l.length ≤ 1000) : p_slices_Index l x = some (ixOf l x) := by
  unfold p_slices_Index
  rw [grd_pos (by omega)]
  exact forK_ix fun i y nx => by
    by_cases e : x = y
    · rw [if_pos e, if_pos e.symm]
    · rw [if_neg e, if_neg (Ne.symm e)]
theorem pl_contains (l : List Int) (x : Int) (h : l.length ≤ 1000) : p_slices_Contains l x = some (decide (x ∈ l)) := by
  unfold p_slices_Contains
  rw [pl_index _ _ h, callK_some]
  congr 1
  rw [decide_eq_decide]
  exact ix_mem
theorem pl_has (l : List Int) (x : Int) (h : l.length ≤ 1000) : p_spec_l00Has l x = some (decide (x ∈ l)) := by
  unfold p_spec_l00Has
  rw [grd_pos (by omega), forK_any2 (fun y => decide (y = x)) (some true) (fun i y nx => by by_cases e : y = x <;> simp [e])]
  have : (l.any fun y => decide (y = x)) = decide (x ∈ l) := by
    rw [Bool.eq_iff_iff, List.any_eq_true, decide_eq_true_iff]
    simp
  rw [this]
  cases decide (x ∈ l) <;> rfl
theorem pl_holder (t : BadTable) (x : Int) (h : t.Remap.length ≤ 1000) : p_spec_l07Holder t x = some (ixOf t.Remap x) := by
  unfold p_spec_l07Holder
  rw [grd_pos (by omega)]
  exact forK_ix fun i y nx => rfl
theorem pl_isBad (t : BadTable) (x : Int) (h : t.Bad.length ≤ 1000) : p_impl_BadTable_isBad t x = some (decide (x ∈ t.Bad)) := by
  unfold p_impl_BadTable_isBad
  rw [pl_contains _ _ h, callK_some]
theorem take_drop0 (l : List Int) (i : Nat) : (l.drop (Int.toNat 0)).take (Int.toNat (i : Int) - Int.toNat 0) = l.take i := by simp
/-- Rising numbers within bounds. -/
def Ris (l : List Int) (lo hi : Int) : Prop := l.Pairwise (· < ·) ∧ ∀ x ∈ l, lo ≤ x ∧ x ≤ hi
theorem ris_iff {l : List Int} {lo hi : Int} : Ris l lo hi ↔ ∀ i (hi' : i < l.length), (lo ≤ l[i] ∧ l[i] ≤ hi) ∧ ∀ h0 : 0 < i, l[i - 1]'(by omega) < l[i] := by
  constructor
  · rintro ⟨h1, h2⟩ i hi'
    exact ⟨h2 _ (List.getElem_mem hi'), fun h0 => List.pairwise_iff_getElem.mp h1 (i - 1) i (by omega) hi' (by omega)⟩
  · intro h
    refine ⟨adj_up fun i hi' => ?_, fun x hx => ?_⟩
    · have := (h (i + 1) hi').2 (by omega)
      simpa using this
    · obtain ⟨i, hi', rfl⟩ := List.mem_iff_getElem.mp hx
      exact (h i hi').1
theorem pl_rises (l : List Int) (lo hi : Int) (h : l.length ≤ 1000) : ∃ b, p_spec_l00Rises l lo hi = some b ∧ (b = true ↔ Ris l lo hi) := by
  unfold p_spec_l00Rises
  rw [grd_pos (by omega), ris_iff]
  refine forK_ex (fun i _ => ∀ j (hj : j < l.length), j < i → (lo ≤ l[j] ∧ l[j] ≤ hi) ∧ ∀ h0 : 0 < j, l[j - 1]'(by omega) < l[j]) (fun i hi' s hs nx hnx => ?_) (fun s hs => ⟨true, rfl, by simp; exact fun i hi' => hs i hi' hi'⟩) () (fun j hj h => by omega)
  have step : (lo ≤ l[i] ∧ l[i] ≤ hi) → (∀ h0 : 0 < i, l[i - 1]'(by omega) < l[i]) → ∃ r, nx () = some r ∧ _ := fun a b => hnx () fun j hj hji => by
    by_cases e : j = i
    · subst e; exact ⟨a, b⟩
    · exact hs j hj (by omega)
  by_cases hx : inR l[i] lo hi = true
  · rw [if_pos hx]
    by_cases h0 : (i : Int) > 0
    · have hw : IntKind.i64.wrap ((i : Int) - 1) = ((i - 1 : Nat) : Int) := by rw [wrap_sm _ (by omega) (by omega)]; omega
      rw [if_pos h0, hw, getK_lt (by omega)]
      by_cases hc : l[i - 1] ≥ l[i]
      · rw [if_pos hc]
        exact noB fun hh => by have := (hh i hi').2 (by omega); omega
      · rw [if_neg hc]
        exact step (inR_iff.mp hx) fun _ => by omega
    · rw [if_neg h0]
      exact step (inR_iff.mp hx) fun h => by omega
  · rw [if_neg hx]
    refine ⟨false, rfl, ?_⟩
    simp only [Bool.false_eq_true, false_iff]
    intro h
    exact hx (inR_iff.mpr (h i hi').1)
theorem pl_incr (l : List Int) (h : l.length ≤ 1000) : ∃ b, p_impl_increasing l = some b ∧ (b = true ↔ l.Pairwise (· < ·)) := by
  unfold p_impl_increasing
  refine iterK_ex (fun (d : Nat) (v : Int) => 1 ≤ v ∧ v + d = l.length + 1 ∧ ∀ j (hj : j < l.length), (j : Int) < v → ∀ h0 : 0 < j, l[j - 1]'(by omega) < l[j]) (fun d v hv nx hnx => ?_) l.length 1 (by unfold NN; omega) ⟨by omega, by omega, fun j hj h1 h0 => by omega⟩
  obtain ⟨h1, h2, h3⟩ := hv
  by_cases hc : v < (l.length : Int)
  · have hw : IntKind.i64.wrap (v - 1) = v - 1 := wrap_sm _ (by omega) (by omega)
    have hw2 : IntKind.i64.wrap (v + 1) = v + 1 := wrap_sm _ (by omega) (by omega)
    rw [if_pos hc, getK_in (by omega) hc, hw, getK_in (by omega) (by omega), hw2]
    have e1 : (v - 1).toNat = v.toNat - 1 := by omega
    by_cases hle : l[v.toNat]'(by omega) ≤ l[(v - 1).toNat]'(by omega)
    · rw [if_pos hle]
      refine noB fun hp => ?_
      have := List.pairwise_iff_getElem.mp hp (v - 1).toNat v.toNat (by omega) (by omega) (by omega)
      omega
    · rw [if_neg hle]
      refine hnx (d - 1) _ (by omega) ⟨by omega, by omega, fun j hj hjv h0 => ?_⟩
      by_cases e : (j : Int) = v
      · have ej : j = v.toNat := by omega
        subst ej
        simp only [e1] at hle
        omega
      · exact h3 j hj (by omega) h0
  · rw [if_neg hc]
    have hp : l.Pairwise (· < ·) := adj_up fun i hi => by
      have := h3 (i + 1) hi (by omega) (by omega)
      simpa using this
    exact ⟨true, rfl, by simp [hp]⟩
theorem pl_within1 (x a b : Int) : p_impl_allWithin_c1 x a b = some (!inR x a b) := by unfold p_impl_allWithin_c1; simp
theorem pl_allW (l : List Int) (a b : Int) (h : l.length ≤ 1000000) : p_impl_allWithin l a b = some (l.all fun x => inR x a b) := by
  unfold p_impl_allWithin p_slices_ContainsFunc_impl_allWithin_c1 p_slices_IndexFunc_impl_allWithin_c1
  rw [grd_pos (by omega), forK_idx (p := fun x => !inR x a b) (fun x => pl_within1 x a b)]
  simp only [callK_some, idxP_any, any_not]
/-! ### The shape -/
structure Geo (t : BadTable) : Prop where
  d : 2 ≤ t.Geo.Dies ∧ t.Geo.Dies ≤ 3
  b : 4 ≤ t.Geo.Blocks ∧ t.Geo.Blocks ≤ 12
theorem pl_geo (g : Geometry) : ∃ b, p_spec_ValidGeometry g = some b ∧ p_impl_ValidGeometry g = some b ∧ (b = true → (2 ≤ g.Dies ∧ g.Dies ≤ 3) ∧ 4 ≤ g.Blocks ∧ g.Blocks ≤ 12) := by
  unfold p_spec_ValidGeometry p_impl_ValidGeometry
  by_cases h1 : inR g.Dies 2 3 = true
  · by_cases h2 : inR g.Blocks 4 12 = true
    · rw [if_pos h1, if_pos h2]
      by_cases h3 : g.Pages = 8
      · rw [if_pos h3]; exact ⟨_, rfl, rfl, fun _ => ⟨inR_iff.mp h1, inR_iff.mp h2⟩⟩
      · rw [if_neg h3]; exact ⟨_, rfl, rfl, fun _ => ⟨inR_iff.mp h1, inR_iff.mp h2⟩⟩
    · rw [if_pos h1, if_neg h2]; exact ⟨_, rfl, rfl, fun h => by simp at h⟩
  · rw [if_neg h1]; exact ⟨_, rfl, rfl, fun h => by simp at h⟩
noncomputable def geoB (g : Geometry) : Bool := (p_spec_ValidGeometry g).getD false
theorem geo_s (g : Geometry) : p_spec_ValidGeometry g = some (geoB g) := by
  obtain ⟨b, e, _, _⟩ := pl_geo g
  unfold geoB; rw [e]; rfl
theorem geo_i (g : Geometry) : p_impl_ValidGeometry g = some (geoB g) := by
  obtain ⟨b, e, e2, _⟩ := pl_geo g
  unfold geoB; rw [e, e2]; rfl
theorem geo_b {g : Geometry} (h : geoB g = true) : (2 ≤ g.Dies ∧ g.Dies ≤ 3) ∧ 4 ≤ g.Blocks ∧ g.Blocks ≤ 12 := by
  obtain ⟨b, e, _, h2⟩ := pl_geo g
  unfold geoB at h; rw [e] at h; exact h2 h
structure Sh (t : BadTable) : Prop where
  geo : geoB t.Geo = true
  sp : 1 ≤ t.Spare ∧ t.Spare ≤ 4
  lt : t.Spare < t.Geo.Blocks - 1
  bad : Ris t.Bad 0 (t.Geo.Dies * t.Geo.Blocks - 1)
theorem mul_le {a b : Int} (ha : 0 ≤ a ∧ a ≤ 3) (hb : 0 ≤ b ∧ b ≤ 12) : 0 ≤ a * b ∧ a * b ≤ 36 := by
  refine ⟨Int.mul_nonneg ha.1 hb.1, ?_⟩
  have := Int.mul_le_mul ha.2 hb.2 hb.1 (by omega : (0 : Int) ≤ 3)
  omega
theorem count_w {g : Geometry} (h : geoB g = true) : IntKind.i64.wrap (g.Dies * g.Blocks) = g.Dies * g.Blocks ∧ IntKind.i64.wrap (g.Dies * g.Blocks - 1) = g.Dies * g.Blocks - 1 := by
  obtain ⟨h1, h2⟩ := geo_b h
  have := mul_le (a := g.Dies) (b := g.Blocks) (by omega) (by omega)
  exact ⟨wrap_sm _ (by omega) (by omega), wrap_sm _ (by omega) (by omega)⟩
theorem pl_shape (t : BadTable) (h : t.Bad.length ≤ 1000) : ∃ b, p_spec_l07Shape t = some b ∧ (b = true ↔ Sh t) := by
  unfold p_spec_l07Shape p_spec_l07Count
  rw [geo_s, callK_some]
  by_cases h1 : geoB t.Geo = true
  rotate_left
  · rw [if_neg h1]; exact ⟨false, rfl, by simp only [Bool.false_eq_true, false_iff]; exact fun h => h1 h.geo⟩
  obtain ⟨_, g2⟩ := geo_b h1
  have w1 : IntKind.i64.wrap (t.Geo.Blocks - 1) = t.Geo.Blocks - 1 := wrap_sm _ (by omega) (by omega)
  obtain ⟨w2, w3⟩ := count_w h1
  rw [if_pos h1, w1]
  by_cases h2 : inR t.Spare 1 4 = true
  rotate_left
  · rw [if_neg h2]; exact ⟨false, rfl, by simp only [Bool.false_eq_true, false_iff]; exact fun h => h2 (inR_iff.mpr h.sp)⟩
  rw [if_pos h2]
  by_cases h3 : t.Spare < t.Geo.Blocks - 1
  rotate_left
  · rw [if_neg h3]; exact ⟨false, rfl, by simp only [Bool.false_eq_true, false_iff]; exact fun h => h3 h.lt⟩
  rw [if_pos h3, callK_some, w2, w3]
  obtain ⟨b, e, hb⟩ := pl_rises t.Bad 0 (t.Geo.Dies * t.Geo.Blocks - 1) h
  rw [e, callK_some]
  exact ⟨b, rfl, hb.trans ⟨fun h => ⟨h1, inR_iff.mp h2, h3, h⟩, fun h => h.bad⟩⟩
/-! ### Homes and spares -/
def hK (t : BadTable) (i : Int) : Int := IntKind.i64.wrap ((IntKind.i64.wrap ((IntKind.i64.wrap (Int.tdiv i (IntKind.i64.wrap (t.Geo.Blocks - t.Spare)))) * t.Geo.Blocks)) + (Int.tmod i (IntKind.i64.wrap (t.Geo.Blocks - t.Spare))))
theorem sh_pr {t : BadTable} (h : Sh t) : IntKind.i64.wrap (t.Geo.Blocks - t.Spare) = t.Geo.Blocks - t.Spare ∧ 2 ≤ t.Geo.Blocks - t.Spare ∧ t.Geo.Blocks - t.Spare ≤ 11 := by
  obtain ⟨_, g2⟩ := geo_b h.geo
  have := h.sp
  have := h.lt
  exact ⟨wrap_sm _ (by omega) (by omega), by omega, by omega⟩
theorem pl_home {t : BadTable} (h : Sh t) (i : Int) : p_spec_l07Home t i = some (hK t i) ∧ p_impl_BadTable_home t i = some (hK t i) := by
  obtain ⟨w, h1, _⟩ := sh_pr h
  have hne : IntKind.i64.wrap (t.Geo.Blocks - t.Spare) ≠ 0 := by rw [w]; omega
  constructor
  · unfold p_spec_l07Home hK
    rw [grd_pos hne, grd_pos hne]
  · unfold p_impl_BadTable_home p_impl_BadTable_primary hK
    rw [callK_some, grd_pos hne, callK_some, grd_pos hne]
theorem hK_eq {t : BadTable} (h : Sh t) {i : Int} (hi : 0 ≤ i ∧ i < t.Geo.Dies * (t.Geo.Blocks - t.Spare)) : ∃ d o, hK t i = d * t.Geo.Blocks + o ∧ (0 ≤ d ∧ d < t.Geo.Dies) ∧ (0 ≤ o ∧ o < t.Geo.Blocks - t.Spare) ∧ IntKind.i64.wrap (Int.tdiv (hK t i) t.Geo.Blocks) = d ∧ (hK t i) / t.Geo.Blocks = d := by
  obtain ⟨w, h1, h2⟩ := sh_pr h
  obtain ⟨g1, g2⟩ := geo_b h.geo
  have hs := h.sp
  refine ⟨i / (t.Geo.Blocks - t.Spare), i % (t.Geo.Blocks - t.Spare), ?_⟩
  have hd0 : 0 ≤ i / (t.Geo.Blocks - t.Spare) := Int.ediv_nonneg hi.1 (by omega)
  have hd1 : i / (t.Geo.Blocks - t.Spare) < t.Geo.Dies := Int.ediv_lt_of_lt_mul (by omega) hi.2
  have ho0 : 0 ≤ i % (t.Geo.Blocks - t.Spare) := Int.emod_nonneg _ (by omega)
  have ho1 : i % (t.Geo.Blocks - t.Spare) < t.Geo.Blocks - t.Spare := Int.emod_lt_of_pos _ (by omega)
  have e1 : Int.tdiv i (t.Geo.Blocks - t.Spare) = i / (t.Geo.Blocks - t.Spare) := Int.tdiv_eq_ediv_of_nonneg hi.1
  have e2 : Int.tmod i (t.Geo.Blocks - t.Spare) = i % (t.Geo.Blocks - t.Spare) := Int.tmod_eq_emod_of_nonneg hi.1
  have hm := mul_le (a := i / (t.Geo.Blocks - t.Spare)) (b := t.Geo.Blocks) (by omega) (by omega)
  have e3 : hK t i = i / (t.Geo.Blocks - t.Spare) * t.Geo.Blocks + i % (t.Geo.Blocks - t.Spare) := by
    unfold hK
    rw [w, e1, e2, wrap_sm (i / (t.Geo.Blocks - t.Spare)) (by omega) (by omega), wrap_sm (i / (t.Geo.Blocks - t.Spare) * t.Geo.Blocks) (by omega) (by omega), wrap_sm _ (by omega) (by omega)]
  have e4 : hK t i / t.Geo.Blocks = i / (t.Geo.Blocks - t.Spare) := by
    rw [e3, Int.add_comm, Int.add_mul_ediv_right _ _ (by omega), Int.ediv_eq_zero_of_lt ho0 (by omega), Int.zero_add]
  refine ⟨e3, ⟨hd0, hd1⟩, ⟨ho0, ho1⟩, ?_, e4⟩
  rw [Int.tdiv_eq_ediv_of_nonneg (by rw [e3]; omega), e4, wrap_sm _ (by omega) (by omega)]
def spL (t : BadTable) (d : Int) : List Int := (List.range t.Spare.toNat).map fun (k : Nat) => d * t.Geo.Blocks + (t.Geo.Blocks - t.Spare) + (k : Int)
theorem spL_mem {t : BadTable} (h : Sh t) {d x : Int} : x ∈ spL t d ↔ d * t.Geo.Blocks + (t.Geo.Blocks - t.Spare) ≤ x ∧ x < d * t.Geo.Blocks + t.Geo.Blocks := by
  have := h.sp
  unfold spL
  simp only [List.mem_map, List.mem_range]
  constructor
  · rintro ⟨k, hk, rfl⟩; omega
  · intro hx; exact ⟨(x - (d * t.Geo.Blocks + (t.Geo.Blocks - t.Spare))).toNat, by omega, by omega⟩
theorem spL_len (t : BadTable) (d : Int) (h : t.Spare ≤ 4) : (spL t d).length ≤ 4 := by unfold spL; simp; omega
theorem spL_nodup (t : BadTable) (d : Int) : (spL t d).Nodup := by
  unfold spL
  rw [List.nodup_iff_pairwise_ne, List.pairwise_map]
  exact (List.nodup_range).imp fun h e => h (by omega)
theorem pl_spares {t : BadTable} (h : Sh t) {d : Int} (hd : 0 ≤ d ∧ d ≤ 3) : p_impl_BadTable_spares t d = some (spL t d) := by
  obtain ⟨w, h1, h2⟩ := sh_pr h
  obtain ⟨g1, g2⟩ := geo_b h.geo
  have hs := h.sp
  have hm := mul_le (a := d) (b := t.Geo.Blocks) hd (by omega)
  unfold p_impl_BadTable_spares p_impl_BadTable_primary
  rw [callK_some, w]
  refine iterK_rule (fun (k : Nat) (s : Int × List Int) => s.1 = t.Geo.Blocks - k ∧ (k : Int) ≤ t.Spare ∧ s.2 = (List.range (t.Spare.toNat - k)).map fun (j : Nat) => d * t.Geo.Blocks + (t.Geo.Blocks - t.Spare) + (j : Int)) (fun k s hs' nx hnx => ?_) t.Spare.toNat _ (by unfold NN; omega) ⟨by dsimp only; omega, by omega, by simp⟩
  obtain ⟨v2, v3⟩ := s
  obtain ⟨q1, q2, q3⟩ := hs'
  dsimp only at q1 q3 ⊢
  subst q1
  by_cases hk : 0 < k
  · have hl : v3.length ≤ 4 := by rw [q3]; simp; omega
    rw [if_pos (by omega), grd_pos (appOk_of _ _ (by omega)), wrap_sm (d * t.Geo.Blocks) (by omega) (by omega), wrap_sm (d * t.Geo.Blocks + (t.Geo.Blocks - (k : Int))) (by omega) (by omega), wrap_sm (t.Geo.Blocks - (k : Int) + 1) (by omega) (by omega)]
    refine hnx (k - 1) _ (by omega) ⟨by dsimp only; omega, by omega, ?_⟩
    dsimp only
    have : t.Spare.toNat - (k - 1) = t.Spare.toNat - k + 1 := by omega
    rw [this, List.range_succ, List.map_append, q3]
    congr 1
    simp only [List.map_cons, List.map_nil]
    congr 1
    omega
  · have : k = 0 := by omega
    subst this
    rw [if_neg (by omega), q3]
    rfl
/-! ### Valid tables -/
def okX (t : BadTable) (i : Nat) (x : Int) : Bool := !decide (x ∈ t.Bad) && (!decide (x ∈ t.Remap.take i) && (decide (x = hK t i) || (decide (x ∈ spL t (hK t i / t.Geo.Blocks)) && decide (hK t i ∈ t.Bad))))
structure VB (t : BadTable) : Prop where
  sh : Sh t
  len : (t.Remap.length : Int) = t.Geo.Dies * (t.Geo.Blocks - t.Spare)
  ok : ∀ i, i < t.Remap.length → okX t i (t.Remap.getD i 0) = true
theorem pl_spareOf {t : BadTable} (h : Sh t) {d x : Int} (hd : 0 ≤ d ∧ d < t.Geo.Dies) : p_spec_l07SpareOf t d x = some (decide (x ∈ spL t d)) := by
  unfold p_spec_l07SpareOf
  obtain ⟨g1, g2⟩ := geo_b h.geo
  have hs := h.sp
  have hm := mul_le (a := d + 1) (b := t.Geo.Blocks) (by omega) (by omega)
  rw [wrap_sm (d + 1) (by omega) (by omega), wrap_sm ((d + 1) * t.Geo.Blocks) (by omega) (by omega), wrap_sm ((d + 1) * t.Geo.Blocks - t.Spare) (by omega) (by omega), wrap_sm ((d + 1) * t.Geo.Blocks - 1) (by omega) (by omega)]
  congr 1
  rw [Bool.eq_iff_iff, inR_iff, decide_eq_true_iff, spL_mem h, Int.add_mul, Int.one_mul]
  omega
theorem log_w {t : BadTable} (h : Sh t) : IntKind.i64.wrap (t.Geo.Dies * IntKind.i64.wrap (t.Geo.Blocks - t.Spare)) = t.Geo.Dies * (t.Geo.Blocks - t.Spare) := by
  obtain ⟨w, h1, h2⟩ := sh_pr h
  obtain ⟨g1, g2⟩ := geo_b h.geo
  have hm := mul_le (a := t.Geo.Dies) (b := t.Geo.Blocks - t.Spare) (by omega) (by omega)
  rw [w, wrap_sm _ (by omega) (by omega)]
theorem pl_V (t : BadTable) (h1 : t.Bad.length ≤ 1000) (h2 : t.Remap.length ≤ 1000) : ∃ b, p_spec_ValidBadTable t = some b ∧ p_impl_ValidBadTable t = some b ∧ (b = true ↔ VB t) := by
  obtain ⟨b, e, hb⟩ := pl_shape t h1
  unfold p_spec_ValidBadTable p_impl_ValidBadTable p_impl_spareOk p_impl_blocksOk p_impl_Geometry_all p_impl_BadTable_logical p_impl_BadTable_primary
  rw [e, geo_i]
  simp only [callK_some]
  have no : ¬ VB t → ∃ b, some false = some b ∧ some false = some b ∧ (b = true ↔ VB t) := fun h => ⟨false, rfl, rfl, by simp [h]⟩
  by_cases hs : Sh t
  rotate_left
  · have hbf : ¬ b = true := fun h => hs (hb.mp h)
    rw [if_neg hbf]
    have hv : ¬ VB t := fun h => hs h.sh
    by_cases g1 : geoB t.Geo = true
    rotate_left
    · rw [if_neg g1]; exact no hv
    rw [if_pos g1]
    obtain ⟨_, g2⟩ := geo_b g1
    have w1 : IntKind.i64.wrap (t.Geo.Blocks - 1) = t.Geo.Blocks - 1 := wrap_sm _ (by omega) (by omega)
    obtain ⟨w2, w3⟩ := count_w g1
    rw [w1, w2, w3]
    by_cases g3 : inR t.Spare 1 4 = true
    rotate_left
    · rw [if_neg g3, callK_some]; exact no hv
    rw [if_pos g3, callK_some]
    by_cases g4 : t.Spare < t.Geo.Blocks - 1
    rotate_left
    · rw [if_neg (by simpa using g4)]; exact no hv
    rw [if_pos (by simpa using g4)]
    obtain ⟨c, ec, hc⟩ := pl_incr t.Bad h1
    rw [ec, callK_some]
    by_cases g5 : c = true
    rotate_left
    · rw [if_neg g5, callK_some]; exact no hv
    rw [if_pos g5, pl_allW _ _ _ (by omega), callK_some, callK_some, if_neg]
    · exact no hv
    · intro hall
      refine hs ⟨g1, inR_iff.mp g3, g4, hc.mp g5, fun x hx => inR_iff.mp ?_⟩
      exact List.all_eq_true.mp hall x hx
  rw [if_pos (hb.mpr hs), if_pos hs.geo]
  obtain ⟨g1, g2⟩ := geo_b hs.geo
  have w1 : IntKind.i64.wrap (t.Geo.Blocks - 1) = t.Geo.Blocks - 1 := wrap_sm _ (by omega) (by omega)
  obtain ⟨w2, w3⟩ := count_w hs.geo
  obtain ⟨c, ec, hc⟩ := pl_incr t.Bad h1
  have hlt := hs.lt
  rw [w1, w2, w3, if_pos (inR_iff.mpr hs.sp), callK_some, if_pos (show decide (t.Spare < t.Geo.Blocks - 1) = true by simpa using hlt), ec, callK_some, if_pos (hc.mpr hs.bad.1), pl_allW _ _ _ (by omega), callK_some, callK_some, if_pos (List.all_eq_true.mpr fun x hx => inR_iff.mpr (hs.bad.2 x hx)), log_w hs]
  by_cases hl : (t.Remap.length : Int) = t.Geo.Dies * (t.Geo.Blocks - t.Spare)
  rotate_left
  · rw [if_pos hl, if_pos hl]; exact no fun h => hl h.len
  rw [if_neg (by simpa using hl), if_neg (by simpa using hl), grd_pos (by omega), grd_pos (by omega)]
  have hB : t.Geo.Blocks ≠ 0 := by omega
  refine ⟨(List.range t.Remap.length).all fun i => okX t i (t.Remap.getD i 0), ?_, ?_, ?_⟩
  · rw [forK_allI (fun i => okX t i (t.Remap.getD i 0)) (some false) (fun i hi nx => ?_)]
    · cases (List.range t.Remap.length).all fun i => okX t i (t.Remap.getD i 0) <;> rfl
    · have eg : t.Remap.getD i 0 = t.Remap[i] := by simp [List.getD, hi]
      obtain ⟨d, o, q1, q2, q3, q4, q5⟩ := hK_eq hs (i := (i : Int)) (by omega)
      rw [(pl_home hs _).1, callK_some, pl_has _ _ h1, callK_some, take_drop0, grd_pos (by omega), pl_has _ _ (by rw [List.length_take]; omega), callK_some, grd_pos hB, q4, pl_spareOf hs q2, callK_some, pl_has _ _ h1, callK_some, eg]
      unfold okX
      rw [q5]
      by_cases a1 : t.Remap[i] ∈ t.Bad <;> by_cases a2 : t.Remap[i] ∈ t.Remap.take i <;> by_cases a3 : t.Remap[i] = hK t i <;> by_cases a4 : t.Remap[i] ∈ spL t d <;> by_cases a5 : hK t i ∈ t.Bad <;> simp [a1, a2, a3, a4, a5]
  · rw [forK_allI (fun i => okX t i (t.Remap.getD i 0)) (some false) (fun i hi nx => ?_)]
    · cases (List.range t.Remap.length).all fun i => okX t i (t.Remap.getD i 0) <;> rfl
    · have eg : t.Remap.getD i 0 = t.Remap[i] := by simp [List.getD, hi]
      obtain ⟨d, o, q1, q2, q3, q4, q5⟩ := hK_eq hs (i := (i : Int)) (by omega)
      unfold p_impl_BadTable_remapOk
      rw [(pl_home hs _).2, callK_some, pl_isBad _ _ h1, pl_isBad _ _ h1, take_drop0, grd_pos hB, grd_pos (by omega), pl_contains (t.Remap.take i) _ (by rw [List.length_take]; omega), callK_some, callK_some, callK_some, q4, pl_spares hs (by omega), callK_some, pl_contains _ _ (by have := spL_len t d hs.sp.2; omega), callK_some, eg]
      unfold okX
      rw [q5]
      by_cases a1 : t.Remap[i] ∈ t.Bad <;> by_cases a2 : t.Remap[i] ∈ t.Remap.take i <;> by_cases a3 : t.Remap[i] = hK t i <;> by_cases a4 : t.Remap[i] ∈ spL t d <;> by_cases a5 : hK t i ∈ t.Bad <;> simp [a1, a2, a3, a4, a5, callK_some]
  · rw [List.all_eq_true]
    exact ⟨fun h => ⟨hs, hl, fun i hi => h i (List.mem_range.mpr hi)⟩, fun h i hi => h.ok i (List.mem_range.mp hi)⟩
/-! ### Spares at hand -/
def avL (t : BadTable) (d : Int) : List Int := (spL t d).filter fun x => !(decide (x ∈ t.Bad) || decide (x ∈ t.Remap))
theorem pl_avail {t : BadTable} (h : Sh t) (h1 : t.Bad.length ≤ 1000) (h2 : t.Remap.length ≤ 1000) {d : Int} (hd : 0 ≤ d ∧ d < t.Geo.Dies) : p_impl_BadTable_available t d = some (avL t d) := by
  obtain ⟨g1, g2⟩ := geo_b h.geo
  have hl := spL_len t d h.sp.2
  have hc : ∀ x, p_impl_BadTable_available_c1 x t = some (decide (x ∈ t.Bad) || decide (x ∈ t.Remap)) := fun x => by
    unfold p_impl_BadTable_available_c1
    rw [pl_isBad _ _ h1, callK_some, pl_contains _ _ h2, callK_some]
    cases decide (x ∈ t.Bad) <;> simp
  have hdel : p_slices_DeleteFunc_impl_BadTable_available_c1 (spL t d) t = delF (0 : Int) (fun x => p_impl_BadTable_available_c1 x t) (spL t d) := rfl
  unfold p_impl_BadTable_available
  rw [pl_spares h (by omega), callK_some, hdel, delF_ok _ _ (by omega) (fun x _ => hc x), callK_some]
  rfl
theorem pl_avail_s {t : BadTable} (h : Sh t) (bad remap : List Int) (h1 : bad.length ≤ 1000) (h2 : remap.length ≤ 1000) {d : Int} (hd : 0 ≤ d ∧ d < t.Geo.Dies) : p_spec_l07Available t.Geo.Dies t.Geo.Blocks t.Geo.Pages t.Spare d bad remap = some ((spL t d).filter fun x => !(decide (x ∈ bad) || decide (x ∈ remap))) := by
  obtain ⟨g1, g2⟩ := geo_b h.geo
  have hs := h.sp
  have hm := mul_le (a := d + 1) (b := t.Geo.Blocks) (by omega) (by omega)
  unfold p_spec_l07Available
  rw [wrap_sm (d + 1) (by omega) (by omega), wrap_sm ((d + 1) * t.Geo.Blocks) (by omega) (by omega), wrap_sm ((d + 1) * t.Geo.Blocks - t.Spare) (by omega) (by omega)]
  have hsp : spL t d = (List.range t.Spare.toNat).map fun (k : Nat) => (d + 1) * t.Geo.Blocks - t.Spare + (k : Int) := by
    unfold spL
    refine List.map_congr_left fun k _ => ?_
    rw [Int.add_mul]; omega
  rw [hsp]
  refine iterK_rule (fun (k : Nat) (s : Int × List Int) => s.1 = (d + 1) * t.Geo.Blocks - k ∧ (k : Int) ≤ t.Spare ∧ s.2 = ((List.range (t.Spare.toNat - k)).map fun (j : Nat) => (d + 1) * t.Geo.Blocks - t.Spare + (j : Int)).filter fun x => !(decide (x ∈ bad) || decide (x ∈ remap))) (fun k s hs' nx hnx => ?_) t.Spare.toNat _ (by unfold NN; omega) ⟨by dsimp only; omega, by omega, by simp⟩
  obtain ⟨v2, v3⟩ := s
  obtain ⟨q1, q2, q3⟩ := hs'
  dsimp only at q1 q3 ⊢
  subst q1
  by_cases hk : 0 < k
  · have hl : v3.length ≤ 4 := by
      rw [q3]
      refine Nat.le_trans (List.length_filter_le _ _) ?_
      simp; omega
    have e1 : t.Spare.toNat - (k - 1) = t.Spare.toNat - k + 1 := by omega
    have e2 : (d + 1) * t.Geo.Blocks - t.Spare + ((t.Spare.toNat - k : Nat) : Int) = (d + 1) * t.Geo.Blocks - (k : Int) := by omega
    have hw : IntKind.i64.wrap ((d + 1) * t.Geo.Blocks - (k : Int) + 1) = (d + 1) * t.Geo.Blocks - ((k - 1 : Nat) : Int) := by rw [wrap_sm _ (by omega) (by omega)]; omega
    have step : ∀ v, v = ((List.range (t.Spare.toNat - k)).map fun (j : Nat) => (d + 1) * t.Geo.Blocks - t.Spare + (j : Int)).filter (fun x => !(decide (x ∈ bad) || decide (x ∈ remap))) ++ (if decide ((d + 1) * t.Geo.Blocks - (k : Int) ∈ bad) || decide ((d + 1) * t.Geo.Blocks - (k : Int) ∈ remap) then [] else [(d + 1) * t.Geo.Blocks - (k : Int)]) → nx ((d + 1) * t.Geo.Blocks - ((k - 1 : Nat) : Int), v) = _ := fun v hv => hnx (k - 1) (_, v) (by omega) ⟨rfl, by omega, by
      dsimp only
      rw [e1, List.range_succ, List.map_append, List.filter_append, hv]
      congr 1
      simp only [List.map_cons, List.map_nil, e2, List.filter_cons, List.filter_nil]
      cases decide ((d + 1) * t.Geo.Blocks - (k : Int) ∈ bad) <;> cases decide ((d + 1) * t.Geo.Blocks - (k : Int) ∈ remap) <;> rfl⟩
    rw [if_pos (by omega), pl_has _ _ h1, callK_some, pl_has _ _ h2, callK_some, hw, grd_pos (appOk_of _ _ (by omega))]
    rw [← q3] at step
    by_cases a1 : (d + 1) * t.Geo.Blocks - (k : Int) ∈ bad
    · rw [if_pos (by simpa using a1)]
      exact step _ (by simp [a1])
    · rw [if_neg (by simpa using a1)]
      by_cases a2 : (d + 1) * t.Geo.Blocks - (k : Int) ∈ remap
      · rw [if_pos (by simpa using a2)]
        exact step _ (by simp [a2])
      · rw [if_neg (by simpa using a2)]
        exact step _ (by simp [a1, a2])
  · have : k = 0 := by omega
    subst this
    rw [if_neg (by omega), q3]
    rfl
/-! ### A number put to its place -/
def ins (b : Int) : List Int → List Int
  | [] => [b]
  | x :: l => if x < b then x :: ins b l else b :: x :: l
theorem ins_split {b : Int} : ∀ (u v : List Int), (∀ x ∈ u, x < b) → (∀ x ∈ v, ¬ x < b) → ins b (u ++ v) = u ++ b :: v
  | [], [], _, _ => rfl
  | [], x :: v, _, h => by show ins b (x :: v) = _; unfold ins; rw [if_neg (h x (by simp))]; rfl
  | x :: u, v, h, h2 => by
    show ins b (x :: (u ++ v)) = _
    unfold ins
    rw [if_pos (h x (by simp)), ins_split u v (fun y hy => h y (by simp [hy])) h2]; rfl
theorem ins_snoc {b x : Int} : ∀ (u : List Int), (∃ y ∈ u, ¬ y < b) → ins b (u ++ [x]) = ins b u ++ [x]
  | [], h => by obtain ⟨y, h, _⟩ := h; simp at h
  | z :: u, h => by
    show ins b (z :: (u ++ [x])) = ins b (z :: u) ++ [x]
    unfold ins
    by_cases hz : z < b
    · rw [if_pos hz, if_pos hz, ins_snoc u ?_]; rfl
      obtain ⟨y, h1, h2⟩ := h
      rcases List.mem_cons.mp h1 with rfl | h1
      · exact absurd hz h2
      · exact ⟨y, h1, h2⟩
    · rw [if_neg hz, if_neg hz]; rfl
theorem mem_ins {b x : Int} : ∀ {l : List Int}, x ∈ ins b l ↔ x = b ∨ x ∈ l
  | [] => by simp [ins]
  | y :: l => by
    unfold ins
    split
    · rw [List.mem_cons, mem_ins (l := l), List.mem_cons]
      constructor
      · rintro (h | h | h) <;> simp [h]
      · rintro (h | h | h) <;> simp [h]
    · simp
theorem ins_len (b : Int) : ∀ (l : List Int), (ins b l).length = l.length + 1
  | [] => rfl
  | y :: l => by
    unfold ins
    split
    · rw [List.length_cons, ins_len b l, List.length_cons]
    · rfl
theorem ins_up {b : Int} : ∀ {l : List Int}, l.Pairwise (· < ·) → b ∉ l → (ins b l).Pairwise (· < ·)
  | [], _, _ => by simp [ins]
  | y :: l, h, hb => by
    rw [List.pairwise_cons] at h
    simp only [List.mem_cons, not_or] at hb
    unfold ins
    split
    · rename_i hy
      refine List.pairwise_cons.mpr ⟨fun x hx => ?_, ins_up h.2 hb.2⟩
      rcases mem_ins.mp hx with rfl | hx
      · exact hy
      · exact h.1 x hx
    · rename_i hy
      have hby : b < y := by have := hb.1; omega
      refine List.pairwise_cons.mpr ⟨fun x hx => ?_, List.pairwise_cons.mpr h⟩
      rcases List.mem_cons.mp hx with rfl | hx
      · exact hby
      · have := h.1 x hx; omega
theorem pl_put {l : List Int} {b : Int} (h : l.length ≤ 1000) (hb : b ∉ l) : p_spec_l00Put l b = some (ins b l) := by
  unfold p_spec_l00Put
  rw [grd_pos (by omega)]
  refine forK_rule (fun i (s : Bool × List Int) => (s.1 = false ∧ s.2 = l.take i ∧ ∀ x ∈ l.take i, x < b) ∨ (s.1 = true ∧ s.2 = ins b (l.take i) ∧ ∃ y ∈ l.take i, ¬ y < b)) (fun i hi s hs nx hnx => ?_) (fun s hs => ?_) _ (.inl ⟨rfl, by simp, by simp⟩)
  · obtain ⟨v11, v12⟩ := s
    have ht : l.take (i + 1) = l.take i ++ [l[i]] := List.take_succ_eq_append_getElem hi
    have hlt : (l.take i).length = i := by rw [List.length_take]; omega
    rcases hs with ⟨e1, e2, h3⟩ | ⟨e1, e2, h3⟩
    · dsimp only at e1 e2 ⊢
      subst e1 e2
      rw [if_neg (by decide)]
      by_cases hge : l[i] ≥ b
      · have hgt : l[i] > b := by
          have : l[i] ≠ b := fun e => hb (e ▸ List.getElem_mem hi)
          omega
        rw [if_pos hge, if_pos hgt, grd_pos (appOk_of _ _ (by omega)), grd_pos (appOk_of _ _ (by simp; omega))]
        refine hnx _ (.inr ⟨rfl, ?_, l[i], by rw [ht]; exact List.mem_append.mpr (.inr (List.mem_singleton.mpr rfl)), by omega⟩)
        dsimp only
        rw [ht, ins_split _ _ h3 (by simp; omega)]
        simp
      · rw [if_neg hge, grd_pos (appOk_of _ _ (by omega))]
        refine hnx _ (.inl ⟨rfl, ht.symm, fun x hx => ?_⟩)
        rw [ht] at hx
        rcases List.mem_append.mp hx with hx | hx
        · exact h3 x hx
        · rw [List.mem_singleton] at hx; omega
    · dsimp only at e1 e2 ⊢
      subst e1 e2
      rw [if_pos rfl, grd_pos (appOk_of _ _ (by rw [ins_len]; omega))]
      refine hnx _ (.inr ⟨rfl, ?_, ?_⟩)
      · dsimp only
        rw [ht, ins_snoc _ h3]
      · obtain ⟨y, h4, h5⟩ := h3
        exact ⟨y, by rw [ht]; exact List.mem_append.mpr (.inl h4), h5⟩
  · obtain ⟨v11, v12⟩ := s
    rw [List.take_length] at hs
    rcases hs with ⟨e1, e2, h3⟩ | ⟨e1, e2, h3⟩
    · dsimp only at e1 e2 ⊢
      subst e1
      rw [e2]
      rw [if_neg (by decide), grd_pos (appOk_of _ _ (by omega))]
      have := ins_split l [] h3 (by simp)
      rw [List.append_nil] at this
      rw [this]
    · dsimp only at e1 e2 ⊢
      subst e1
      rw [e2]
      rw [if_pos rfl]
theorem half (n : Int) (h : 0 ≤ n ∧ n ≤ 1000000) : IntKind.i64.wrap (Int.fdiv (IntKind.u64.wrap (IntKind.i64.wrap n)) (2 ^ (min (Int.toNat 1) IntKind.u64.bits))) = n / 2 := by
  have e1 : IntKind.i64.wrap n = n := wrap_sm _ (by omega) (by omega)
  have e2 : IntKind.u64.wrap n = n := by unfold IntKind.wrap; simp [IntKind.signed, IntKind.bits]; omega
  have e3 : ((2 : Int) ^ (min (Int.toNat 1) IntKind.u64.bits)) = 2 := by decide
  rw [e1, e2, e3, Int.fdiv_eq_ediv_of_nonneg _ (by omega), wrap_sm _ (by omega) (by omega)]
theorem pl_less (a b : Int) : p_cmp_Less a b = some (decide (a < b)) := by
  unfold p_cmp_Less p_cmp_isNaN
  rw [callK_some, if_neg (by simp)]
theorem pl_search {l : List Int} {b : Int} (h : l.length ≤ 1000) (hs : l.Pairwise (· < ·)) (hb : b ∉ l) : ∃ p : Nat, p_slices_BinarySearch l b = some ((p : Int), false) ∧ p ≤ l.length ∧ l.take p ++ [b] ++ l.drop p = ins b l := by
  unfold p_slices_BinarySearch
  obtain ⟨r, e, p, rfl, h1, h2⟩ := iterK_ex (Q := fun (r : Int × Bool) => ∃ p : Nat, r = ((p : Int), false) ∧ p ≤ l.length ∧ l.take p ++ [b] ++ l.drop p = ins b l)
    (f := fun ((v1, v2) : (Int × Int)) (nx3 : (Int × Int) → Option (Int × Bool)) =>
    if v1 < v2 then
      getK l (IntKind.i64.wrap (Int.fdiv (IntKind.u64.wrap (IntKind.i64.wrap (v1 + v2))) (2 ^ (min (Int.toNat 1) IntKind.u64.bits)))) fun x5 =>
      callK (p_cmp_Less x5 b) fun y6 =>
      if y6 = true then
        nx3 ((IntKind.i64.wrap ((IntKind.i64.wrap (Int.fdiv (IntKind.u64.wrap (IntKind.i64.wrap (v1 + v2))) (2 ^ (min (Int.toNat 1) IntKind.u64.bits)))) + 1)), v2)
      else
        nx3 (v1, (IntKind.i64.wrap (Int.fdiv (IntKind.u64.wrap (IntKind.i64.wrap (v1 + v2))) (2 ^ (min (Int.toNat 1) IntKind.u64.bits)))))
    else
      if v1 < (l.length : Int) then
        getK l v1 fun x9 =>
        if x9 = b then
          some (v1, true)
        else
          callK (p_slices_isNaN x9) fun y11 =>
          if y11 = true then
            callK (p_slices_isNaN b) fun y13 =>
            some (v1, y13)
          else
            some (v1, false)
      else
        some (v1, false))
    (fun d s => ∃ i j : Nat, s = ((i : Int), (j : Int)) ∧ i ≤ j ∧ j ≤ l.length ∧ d = j - i ∧ (∀ x ∈ l.take i, x < b) ∧ ∀ x ∈ l.drop j, ¬ x < b) (fun d s hs' nx hnx => by
      obtain ⟨i, j, rfl, g1, g2, rfl, g3, g4⟩ := hs'
      dsimp only
      by_cases hij : (i : Int) < (j : Int)
      · have em : ((i : Int) + (j : Int)) / 2 = (((i + j) / 2 : Nat) : Int) := by omega
        rw [if_pos hij, half _ (by omega), em, getK_lt (by omega), pl_less, callK_some]
        by_cases hc : l[(i + j) / 2]'(by omega) < b
        · rw [if_pos (by simpa using hc), wrap_sm _ (by omega) (by omega)]
          refine hnx (j - ((i + j) / 2 + 1)) _ (by omega) ⟨(i + j) / 2 + 1, j, by simp, by omega, g2, rfl, fun x hx => ?_, g4⟩
          obtain ⟨n, hn, rfl⟩ := List.mem_take_iff_getElem.mp hx
          by_cases e : n = (i + j) / 2
          · subst e; exact hc
          · have := List.pairwise_iff_getElem.mp hs n ((i + j) / 2) (by omega) (by omega) (by omega)
            omega
        · rw [if_neg (by simpa using hc)]
          refine hnx ((i + j) / 2 - i) _ (by omega) ⟨i, (i + j) / 2, rfl, by omega, by omega, rfl, g3, fun x hx => ?_⟩
          obtain ⟨n, hn, rfl⟩ := List.mem_drop_iff_getElem.mp hx
          by_cases e : n = 0
          · subst e; simpa using hc
          · have := List.pairwise_iff_getElem.mp hs ((i + j) / 2) ((i + j) / 2 + n) (by omega) (by omega) (by omega)
            omega
      · have : i = j := by omega
        subst this
        have hres : l.take i ++ [b] ++ l.drop i = ins b l := by
          have := ins_split _ _ g3 g4
          rw [List.take_append_drop] at this
          rw [this]; simp
        rw [if_neg hij]
        by_cases hl : (i : Int) < (l.length : Int)
        · rw [if_pos hl, getK_lt (by omega), if_neg (fun e => hb (by rw [← e]; exact List.getElem_mem _))]
          unfold p_slices_isNaN
          rw [callK_some, if_neg (by simp)]
          exact ⟨_, rfl, i, rfl, g2, hres⟩
        · rw [if_neg hl]
          exact ⟨_, rfl, i, rfl, g2, hres⟩)
    l.length (0, (l.length : Int)) (by unfold NN; omega) ⟨0, l.length, rfl, by omega, by omega, by omega, by simp, by simp⟩
  exact ⟨p, e, h1, h2⟩
/-! ### Retiring a block -/
theorem VB.at {t : BadTable} (h : VB t) {i : Nat} (hi : i < t.Remap.length) : t.Remap[i] ∉ t.Bad ∧ t.Remap[i] ∉ t.Remap.take i ∧ (t.Remap[i] = hK t i ∨ (t.Remap[i] ∈ spL t (hK t i / t.Geo.Blocks) ∧ hK t i ∈ t.Bad)) := by
  have := h.ok i hi
  have eg : t.Remap.getD i 0 = t.Remap[i] := by simp [List.getD, hi]
  rw [eg] at this
  unfold okX at this
  simpa only [Bool.and_eq_true, Bool.not_eq_true', decide_eq_false_iff_not, Bool.or_eq_true, decide_eq_true_eq] using this
theorem VB.of {t : BadTable} (h1 : Sh t) (h2 : (t.Remap.length : Int) = t.Geo.Dies * (t.Geo.Blocks - t.Spare)) (h3 : ∀ i (hi : i < t.Remap.length), t.Remap[i] ∉ t.Bad ∧ t.Remap[i] ∉ t.Remap.take i ∧ (t.Remap[i] = hK t i ∨ (t.Remap[i] ∈ spL t (hK t i / t.Geo.Blocks) ∧ hK t i ∈ t.Bad))) : VB t := by
  refine ⟨h1, h2, fun i hi => ?_⟩
  have eg : t.Remap.getD i 0 = t.Remap[i] := by simp [List.getD, hi]
  rw [eg]
  unfold okX
  simpa only [Bool.and_eq_true, Bool.not_eq_true', decide_eq_false_iff_not, Bool.or_eq_true, decide_eq_true_eq] using h3 i hi
theorem VB.inj {t : BadTable} (h : VB t) {i j : Nat} (hi : i < t.Remap.length) (hj : j < t.Remap.length) (e : t.Remap[i] = t.Remap[j]) : i = j := by
  have go : ∀ i j (hi : i < t.Remap.length) (hj : j < t.Remap.length), t.Remap[i] = t.Remap[j] → ¬ i < j := fun i j hi hj e hlt =>
    (h.at hj).2.1 (by rw [← e]; exact List.mem_take_iff_getElem.mpr ⟨i, by omega, rfl⟩)
  have h1 := go i j hi hj e
  have h2 := go j i hj hi e.symm
  omega
theorem spL_die {t : BadTable} (h : Sh t) {d x : Int} (hx : x ∈ spL t d) : x / t.Geo.Blocks = d := by
  obtain ⟨h1, h2⟩ := (spL_mem h).mp hx
  obtain ⟨_, g2⟩ := geo_b h.geo
  obtain ⟨_, p1, _⟩ := sh_pr h
  have : x = (x - d * t.Geo.Blocks) + d * t.Geo.Blocks := by omega
  rw [this, Int.add_mul_ediv_right _ _ (by omega), Int.ediv_eq_zero_of_lt (by omega) (by omega), Int.zero_add]
theorem spL_rng {t : BadTable} (h : Sh t) {d x : Int} (hd : 0 ≤ d ∧ d < t.Geo.Dies) (hx : x ∈ spL t d) : 0 ≤ x ∧ x ≤ t.Geo.Dies * t.Geo.Blocks - 1 := by
  obtain ⟨h1, h2⟩ := (spL_mem h).mp hx
  obtain ⟨g1, g2⟩ := geo_b h.geo
  obtain ⟨_, p1, _⟩ := sh_pr h
  have m1 : 0 ≤ d * t.Geo.Blocks := Int.mul_nonneg hd.1 (by omega)
  have m2 : (d + 1) * t.Geo.Blocks ≤ t.Geo.Dies * t.Geo.Blocks := Int.mul_le_mul_of_nonneg_right (by omega) (by omega)
  rw [Int.add_mul, Int.one_mul] at m2
  omega
/-- The table after a block has been retired: z is the spare that takes its place. -/
def nxt (t : BadTable) (b : Int) : BadTable := ⟨t.Geo, t.Spare, ins b t.Bad, if 0 ≤ ixOf t.Remap b then t.Remap.set (ixOf t.Remap b).toNat ((avL t (b / t.Geo.Blocks)).headD 0) else t.Remap⟩
def full (t : BadTable) (b : Int) : Prop := 0 ≤ ixOf t.Remap b ∧ avL t (b / t.Geo.Blocks) = []
theorem die_ok {t : BadTable} (h : Sh t) {b : Int} (hb : 0 ≤ b ∧ b ≤ t.Geo.Dies * t.Geo.Blocks - 1) : (0 ≤ b / t.Geo.Blocks ∧ b / t.Geo.Blocks < t.Geo.Dies) ∧ IntKind.i64.wrap (Int.tdiv b t.Geo.Blocks) = b / t.Geo.Blocks := by
  obtain ⟨g1, g2⟩ := geo_b h.geo
  have h1 : 0 ≤ b / t.Geo.Blocks := Int.ediv_nonneg hb.1 (by omega)
  have h2 : b / t.Geo.Blocks < t.Geo.Dies := Int.ediv_lt_of_lt_mul (by omega) (by omega)
  exact ⟨⟨h1, h2⟩, by rw [Int.tdiv_eq_ediv_of_nonneg hb.1, wrap_sm _ (by omega) (by omega)]⟩
theorem av_mem {t : BadTable} {d x : Int} : x ∈ avL t d ↔ x ∈ spL t d ∧ x ∉ t.Bad ∧ x ∉ t.Remap := by
  unfold avL
  rw [List.mem_filter]
  simp
theorem head_mem {l : List Int} (h : l ≠ []) : l.headD 0 ∈ l := by cases l with | nil => exact absurd rfl h | cons x l => simp
theorem head0 : ∀ (l : List Int) (h : (0 : Int).toNat < l.length), l[(0 : Int).toNat] = l.headD 0
  | [], h => by simp at h
  | x :: l, _ => rfl
abbrev zT : BadTable := ⟨⟨0, 0, 0⟩, 0, [], []⟩
def flatT (t : BadTable) (c : Int) : Int × Int × Int × Int × Int × List Int × List Int := (t.Geo.Dies, t.Geo.Blocks, t.Geo.Pages, t.Spare, c, t.Bad, t.Remap)
theorem pl_ret {t : BadTable} (h : Sh t) (h1 : t.Bad.length ≤ 900) (h2 : t.Remap.length ≤ 900) {b : Int} (hb : 0 ≤ b ∧ b ≤ t.Geo.Dies * t.Geo.Blocks - 1) (hn : b ∉ t.Bad) :
    p_impl_BadTable_retire t b = some (@ite _ (full t b) (Classical.propDecidable _) (zT, 4) (nxt t b, 0)) := by
  obtain ⟨g1, g2⟩ := geo_b h.geo
  obtain ⟨d1, d2⟩ := die_ok h hb
  obtain ⟨p, e, hp, hins⟩ := pl_search (l := t.Bad) (b := b) (by omega) h.bad.1 hn
  have hG : t.Geo = (⟨t.Geo.Dies, t.Geo.Blocks, t.Geo.Pages⟩ : Geometry) := rfl
  unfold p_impl_BadTable_retire p_impl_BadTable_clone
  rw [pl_isBad _ _ (by omega), callK_some, if_neg (by simpa using hn), grd_pos (appOk_of _ _ (by omega)), grd_pos (appOk_of _ _ (by omega)), callK_some, pl_index _ _ (by omega), callK_some]
  dsimp only
  by_cases hx : ixOf t.Remap b ≥ 0
  · rw [if_pos hx, grd_pos (by omega), d2, pl_avail h (by omega) (by omega) d1, callK_some]
    by_cases hf : avL t (b / t.Geo.Blocks) = []
    · rw [if_pos (by rw [hf]; rfl), if_pos ⟨hx, hf⟩]
    · have hl : 0 < (avL t (b / t.Geo.Blocks)).length := List.length_pos_iff.mpr hf
      obtain ⟨j, ej, hj, _⟩ := ix_get hx
      rw [if_neg (by omega), getK_in (by omega) (by omega), getK_in hx (by omega), e, callK_some]
      dsimp only
      rw [grd_pos ⟨by omega, by omega, by simp⟩, grd_pos (appOk_of _ _ (by simp; omega)), if_neg (fun hh => hf hh.2)]
      unfold nxt
      rw [if_pos hx, Int.toNat_natCast, hins]
      congr 5
      exact head0 _ _
  · rw [if_neg hx, e, callK_some]
    dsimp only
    rw [grd_pos ⟨by omega, by omega, by simp⟩, grd_pos (appOk_of _ _ (by simp; omega)), if_neg (fun hh => hx hh.1)]
    unfold nxt
    rw [if_neg hx, Int.toNat_natCast, hins]
theorem av_ins {t : BadTable} {b d : Int} (hb : b ∈ t.Remap) : ((spL t d).filter fun x => !(decide (x ∈ ins b t.Bad) || decide (x ∈ t.Remap))) = avL t d := by
  unfold avL
  refine List.filter_congr fun x _ => ?_
  by_cases e : x = b
  · subst e; simp [hb]
  · simp [mem_ins, e]
theorem pl_sRet {t : BadTable} (h1 : t.Bad.length ≤ 900) (h2 : t.Remap.length ≤ 900) (b : Int) : ∃ c : Int, p_spec_RetireBlock' t b = some (@ite _ (c = 0) (Classical.propDecidable _) (flatT (nxt t b) 0) (flatT zT c)) ∧
    p_impl_RetireBlock t b = some (@ite _ (c = 0) (Classical.propDecidable _) (nxt t b, 0) (zT, c)) ∧ p_spec_RetireBlock t.Geo.Dies t.Geo.Blocks t.Geo.Pages t.Spare b t.Bad t.Remap = some (@ite _ (c = 0) (Classical.propDecidable _) (flatT (nxt t b) 0) (flatT zT c)) ∧ (c = 0 → VB t ∧ (0 ≤ b ∧ b ≤ t.Geo.Dies * t.Geo.Blocks - 1) ∧ b ∉ t.Bad ∧ ¬ full t b) := by
  obtain ⟨v, ev, ei, hv⟩ := pl_V t (by omega) (by omega)
  have same : p_spec_RetireBlock t.Geo.Dies t.Geo.Blocks t.Geo.Pages t.Spare b t.Bad t.Remap = p_spec_RetireBlock' t b := by
    unfold p_spec_RetireBlock p_spec_RetireBlock' p_spec_l07Own p_spec_l07Own' p_spec_l00Own p_spec_l00Own'
    simp only [show (⟨⟨t.Geo.Dies, t.Geo.Blocks, t.Geo.Pages⟩, t.Spare, t.Bad, t.Remap⟩ : BadTable) = t from rfl, show (⟨t.Geo.Dies, t.Geo.Blocks, t.Geo.Pages⟩ : Geometry) = t.Geo from rfl, grd_pos (appOk_of (0 + t.Bad.length) 8 (by omega)), grd_pos (appOk_of (0 + t.Remap.length) 8 (by omega)), callK_some]
  rw [same]
  unfold p_spec_RetireBlock' p_impl_RetireBlock p_spec_l07Count p_impl_Geometry_all
  rw [ev, ei]
  simp only [callK_some]
  by_cases hV : VB t
  rotate_left
  · have : ¬ v = true := fun h => hV (hv.mp h)
    rw [if_neg this, if_neg this]
    exact ⟨1, by rw [if_neg (by omega)]; rfl, by rw [if_neg (by omega)], by rw [if_neg (by omega)]; rfl, fun h => by omega⟩
  have hs := hV.sh
  obtain ⟨w2, w3⟩ := count_w hs.geo
  obtain ⟨g1, g2⟩ := geo_b hs.geo
  rw [if_pos (hv.mpr hV), if_pos (hv.mpr hV), w2, w3]
  by_cases hb : inR b 0 (t.Geo.Dies * t.Geo.Blocks - 1) = true
  rotate_left
  · rw [if_neg hb, if_neg hb]
    exact ⟨2, by rw [if_neg (by omega)]; rfl, by rw [if_neg (by omega)], by rw [if_neg (by omega)]; rfl, fun h => by omega⟩
  have hb' := inR_iff.mp hb
  rw [if_pos hb, if_pos hb, pl_has _ _ (by omega), callK_some]
  by_cases hn : b ∈ t.Bad
  · have hi : p_impl_BadTable_retire t b = some (zT, 5) := by
      unfold p_impl_BadTable_retire
      rw [pl_isBad _ _ (by omega), callK_some, if_pos (by simpa using hn)]
    rw [if_pos (by simpa using hn), hi, callK_some]
    exact ⟨5, by rw [if_neg (by omega)]; rfl, by rw [if_neg (by omega)], by rw [if_neg (by omega)]; rfl, fun h => by omega⟩
  obtain ⟨d1, d2⟩ := die_ok hs hb'
  rw [if_neg (by simpa using hn), pl_ret hs h1 h2 hb' hn, callK_some]
  unfold p_spec_l07Own' p_spec_l00Own'
  rw [grd_pos (appOk_of _ _ (by omega)), callK_some, grd_pos (appOk_of _ _ (by omega)), callK_some, callK_some]
  dsimp only
  rw [pl_put (by omega) hn, callK_some, pl_holder _ _ (by omega), callK_some]
  by_cases hx : ixOf t.Remap b < 0
  · have hnf : ¬ full t b := fun h => by have := h.1; omega
    rw [if_pos hx, if_neg hnf]
    have en : nxt t b = ⟨t.Geo, t.Spare, ins b t.Bad, t.Remap⟩ := by unfold nxt; rw [if_neg (by omega)]
    exact ⟨0, by rw [if_pos rfl, en]; rfl, by rw [if_pos rfl], by rw [if_pos rfl, en]; rfl, fun _ => ⟨hV, hb', hn, hnf⟩⟩
  · have hmem : b ∈ t.Remap := ix_mem.mp (by omega)
    rw [if_neg hx, grd_pos (by omega), d2, pl_avail_s hs _ _ (by rw [ins_len]; omega) (by omega) d1, av_ins hmem, callK_some]
    by_cases hf : avL t (b / t.Geo.Blocks) = []
    · have hfu : full t b := ⟨by omega, hf⟩
      rw [if_pos (by rw [hf]; rfl), if_pos hfu]
      exact ⟨4, by rw [if_neg (by omega)]; rfl, by rw [if_neg (by omega)], by rw [if_neg (by omega)]; rfl, fun h => by omega⟩
    · have hnf : ¬ full t b := fun h => hf h.2
      have hl : 0 < (avL t (b / t.Geo.Blocks)).length := List.length_pos_iff.mpr hf
      obtain ⟨j, ej, hj, _⟩ := ix_get (l := t.Remap) (x := b) (by omega)
      rw [if_neg (by omega), getK_in (by omega) (by omega), getK_in (by omega) (by omega), if_neg hnf]
      have en : nxt t b = ⟨t.Geo, t.Spare, ins b t.Bad, t.Remap.set (ixOf t.Remap b).toNat ((avL t (b / t.Geo.Blocks)).headD 0)⟩ := by unfold nxt; rw [if_pos (by omega)]
      have eh : (avL t (b / t.Geo.Blocks))[(0 : Int).toNat]'(by simpa using hl) = (avL t (b / t.Geo.Blocks)).headD 0 := head0 _ _
      rw [eh]
      exact ⟨0, by rw [if_pos rfl, en]; rfl, by rw [if_pos rfl], by rw [if_pos rfl, en]; rfl, fun _ => ⟨hV, hb', hn, hnf⟩⟩

theorem ins_ris {t : BadTable} (h : Sh t) {b : Int} (hb : 0 ≤ b ∧ b ≤ t.Geo.Dies * t.Geo.Blocks - 1) (hn : b ∉ t.Bad) : Ris (ins b t.Bad) 0 (t.Geo.Dies * t.Geo.Blocks - 1) :=
  ⟨ins_up h.bad.1 hn, fun x hx => by
    rcases mem_ins.mp hx with rfl | hx
    · exact hb
    · exact h.bad.2 x hx⟩
theorem nxt_ok {t : BadTable} (h : VB t) {b : Int} (hb : 0 ≤ b ∧ b ≤ t.Geo.Dies * t.Geo.Blocks - 1) (hn : b ∉ t.Bad) (hf : ¬ full t b) : VB (nxt t b) := by
  have hs := h.sh
  have hsn : Sh (nxt t b) := ⟨hs.geo, hs.sp, hs.lt, ins_ris hs hb hn⟩
  obtain ⟨d1, d2⟩ := die_ok hs hb
  by_cases hx : 0 ≤ ixOf t.Remap b
  · obtain ⟨j, ej, hj, ejb, _⟩ := ix_get hx
    have hne : avL t (b / t.Geo.Blocks) ≠ [] := fun e => hf ⟨hx, e⟩
    obtain ⟨z, hz⟩ : ∃ z, z = (avL t (b / t.Geo.Blocks)).headD 0 := ⟨_, rfl⟩
    have hzm := head_mem hne
    rw [← hz] at hzm
    obtain ⟨z1, z2, z3⟩ := av_mem.mp hzm
    have er : (nxt t b).Remap = t.Remap.set j z := by unfold nxt; rw [if_pos hx, ej, hz]; rfl
    refine VB.of hsn (by rw [er, List.length_set]; exact h.len) fun i hi => ?_
    have hi' : i < t.Remap.length := by rw [er, List.length_set] at hi; exact hi
    obtain ⟨a1, a2, a3⟩ := h.at hi'
    have eg : (nxt t b).Remap[i] = if j = i then z else t.Remap[i] := by
      simp only [er, List.getElem_set]
    have tk : ∀ x, x ∈ (nxt t b).Remap.take i → x = z ∨ x ∈ t.Remap := fun x hx => by
      have := List.mem_of_mem_take hx
      rw [er] at this
      exact (List.mem_or_eq_of_mem_set this).symm
    rw [eg]
    by_cases e : j = i
    · subst e
      rw [if_pos rfl]
      have hzb : z ≠ b := fun e => z3 (by rw [e, ← ejb]; exact List.getElem_mem hj)
      refine ⟨fun hm => ?_, fun hm => ?_, .inr ?_⟩
      · rcases mem_ins.mp hm with h1 | h1
        · exact hzb h1
        · exact z2 h1
      · obtain ⟨k, hk, e2⟩ := List.mem_take_iff_getElem.mp hm
        have hk2 : k < t.Remap.length := by omega
        have e3 : (nxt t b).Remap[k]'(by rw [er, List.length_set]; exact hk2) = t.Remap[k] := by
          simp only [er]; rw [List.getElem_set_ne (by omega)]
        rw [e3] at e2
        exact z3 (by rw [← e2]; exact List.getElem_mem hk2)
      · rw [ejb] at a3
        obtain ⟨d, o, q1, q2, q3, q4, q5⟩ := hK_eq hs (i := (j : Int)) (by have := h.len; omega)
        rcases a3 with a3 | ⟨a3, a4⟩
        · refine ⟨?_, mem_ins.mpr (.inl a3.symm)⟩
          show z ∈ spL t (hK t j / t.Geo.Blocks)
          rw [← a3]; exact z1
        · refine ⟨?_, mem_ins.mpr (.inr a4)⟩
          show z ∈ spL t (hK t j / t.Geo.Blocks)
          rw [← spL_die hs a3]; exact z1
    · rw [if_neg e]
      have hnb : t.Remap[i] ≠ b := fun e2 => e (h.inj hj hi' (by rw [ejb, e2]))
      refine ⟨fun hm => ?_, fun hm => ?_, ?_⟩
      · rcases mem_ins.mp hm with h1 | h1
        · exact hnb h1
        · exact a1 h1
      · obtain ⟨k, hk, e2⟩ := List.mem_take_iff_getElem.mp hm
        have hk2 : k < t.Remap.length := by omega
        simp only [er, List.getElem_set] at e2
        split at e2
        · exact z3 (by rw [e2]; exact List.getElem_mem hi')
        · have := h.inj hk2 hi' e2
          omega
      · rcases a3 with a3 | ⟨a3, a4⟩
        · exact .inl a3
        · exact .inr ⟨a3, mem_ins.mpr (.inr a4)⟩
  · have er : (nxt t b).Remap = t.Remap := by unfold nxt; rw [if_neg hx]
    have hnm : b ∉ t.Remap := fun hm => hx (ix_mem.mpr hm)
    refine VB.of hsn (by rw [er]; exact h.len) fun i hi => ?_
    have hi' : i < t.Remap.length := by rw [er] at hi; exact hi
    obtain ⟨a1, a2, a3⟩ := h.at hi'
    simp only [er]
    refine ⟨fun hm => ?_, a2, ?_⟩
    · rcases mem_ins.mp hm with h1 | h1
      · exact hnm (by rw [← h1]; exact List.getElem_mem hi')
      · exact a1 h1
    · rcases a3 with a3 | ⟨a3, a4⟩
      · exact .inl a3
      · exact .inr ⟨a3, mem_ins.mpr (.inr a4)⟩
/-- The spare that is used up, or the block itself. -/
def used (t : BadTable) (b : Int) : Int := if 0 ≤ ixOf t.Remap b then (avL t (b / t.Geo.Blocks)).headD 0 else b
theorem av_nxt {t : BadTable} (h : VB t) {b : Int} (hf : ¬ full t b) (d : Int) : avL (nxt t b) d = (avL t d).filter fun x => x != used t b := by
  have hs := h.sh
  unfold avL
  rw [List.filter_filter]
  show (spL t d).filter _ = _
  refine List.filter_congr fun x hx => ?_
  have hB : ∀ x, x ∈ (nxt t b).Bad ↔ x = b ∨ x ∈ t.Bad := fun x => mem_ins
  by_cases hx0 : 0 ≤ ixOf t.Remap b
  · obtain ⟨j, ej, hj, ejb, _⟩ := ix_get hx0
    have hne : avL t (b / t.Geo.Blocks) ≠ [] := fun e => hf ⟨hx0, e⟩
    obtain ⟨z, hz⟩ : ∃ z, z = (avL t (b / t.Geo.Blocks)).headD 0 := ⟨_, rfl⟩
    have er : (nxt t b).Remap = t.Remap.set j z := by unfold nxt; rw [if_pos hx0, ej, hz]; rfl
    have eu : used t b = z := by unfold used; rw [if_pos hx0, hz]
    rw [eu]
    have hR : x ∈ t.Remap.set j z ↔ (x ∈ t.Remap ∧ x ≠ b) ∨ x = z := by
      constructor
      · intro hm
        obtain ⟨k, hk, e⟩ := List.mem_iff_getElem.mp hm
        rw [List.length_set] at hk
        rw [List.getElem_set] at e
        split at e
        · exact .inr e.symm
        · rename_i hjk
          refine .inl ⟨by rw [← e]; exact List.getElem_mem hk, fun e2 => hjk (h.inj hj hk (by rw [ejb, e, e2]))⟩
      · rintro (⟨hm, hxb⟩ | rfl)
        · obtain ⟨k, hk, e⟩ := List.mem_iff_getElem.mp hm
          have hjk : j ≠ k := fun e2 => by subst e2; exact hxb (by rw [← e, ejb])
          exact List.mem_iff_getElem.mpr ⟨k, by rw [List.length_set]; exact hk, by rw [List.getElem_set_ne hjk]; exact e⟩
        · exact List.mem_set hj _
    have hbm : b ∈ t.Remap := by rw [← ejb]; exact List.getElem_mem hj
    rw [Bool.eq_iff_iff]
    simp only [Bool.not_eq_true', Bool.or_eq_false_iff, decide_eq_false_iff_not, Bool.and_eq_true, bne_iff_ne, ne_eq, hB, er, hR]
    by_cases e : x = b
    · subst e; simp [hbm]
    · by_cases e2 : x = z <;> simp [e, e2]
  · have er : (nxt t b).Remap = t.Remap := by unfold nxt; rw [if_neg hx0]
    have eu : used t b = b := by unfold used; rw [if_neg hx0]
    rw [eu, Bool.eq_iff_iff]
    simp only [Bool.not_eq_true', Bool.or_eq_false_iff, decide_eq_false_iff_not, Bool.and_eq_true, bne_iff_ne, ne_eq, hB, er]
    by_cases e : x = b <;> simp [e]
theorem fil_ne {z : Int} : ∀ (l : List Int), l.Nodup → (z ∈ l → l.length = (l.filter fun x => x != z).length + 1) ∧ (z ∉ l → l.length = (l.filter fun x => x != z).length)
  | [], _ => by simp
  | x :: l, h => by
    rw [List.nodup_cons] at h
    obtain ⟨h1, h2⟩ := fil_ne (z := z) l h.2
    by_cases e : x = z
    · subst e
      refine ⟨fun _ => ?_, fun hn => absurd (by simp) hn⟩
      rw [List.filter_cons, if_neg (by simp), List.length_cons, h2 h.1]
    · rw [List.filter_cons, if_pos (by simpa using e), List.length_cons, List.length_cons]
      refine ⟨fun hm => ?_, fun hm => ?_⟩
      · rw [h1 ((List.mem_cons.mp hm).resolve_left (Ne.symm e))]
      · rw [h2 fun hm2 => hm (List.mem_cons_of_mem _ hm2)]
theorem av_nodup (t : BadTable) (d : Int) : (avL t d).Nodup := (spL_nodup t d).filter _
theorem av_len (t : BadTable) (d : Int) (h : t.Spare ≤ 4) : (avL t d).length ≤ 4 := Nat.le_trans (List.length_filter_le _ _) (spL_len t d h)
theorem pl_AS {t : BadTable} (h : VB t) (h1 : t.Bad.length ≤ 1000) (h2 : t.Remap.length ≤ 1000) {d : Int} (hd : 0 ≤ d ∧ d < t.Geo.Dies) : p_impl_AvailableSpares t d = some (((avL t d).length : Int), 0) ∧ p_spec_AvailableSpares t d = some (((avL t d).length : Int), 0) := by
  obtain ⟨v, ev, ei, hv⟩ := pl_V t h1 h2
  obtain ⟨g1, g2⟩ := geo_b h.sh.geo
  unfold p_impl_AvailableSpares p_spec_AvailableSpares
  have hp : p_spec_l07Available' t d = p_spec_l07Available t.Geo.Dies t.Geo.Blocks t.Geo.Pages t.Spare d t.Bad t.Remap := rfl
  rw [ev, ei, hv.mpr h, callK_some, callK_some, if_pos rfl, if_pos rfl, wrap_sm (t.Geo.Dies - 1) (by omega) (by omega), if_pos (inR_iff.mpr (by omega)), if_pos (inR_iff.mpr (by omega)), pl_avail h.sh h1 h2 hd, hp, pl_avail_s h.sh _ _ h1 h2 hd, callK_some, callK_some]
  exact ⟨rfl, rfl⟩
theorem pl_same (l : List Int) (h : l.length ≤ 2000) : p_spec_l00Same l l = some true := by
  unfold p_spec_l00Same
  rw [if_neg (by simp), grd_pos (by omega)]
  refine forK_rule (fun _ _ => True) (fun i hi s _ nx hnx => ?_) (fun s _ => rfl) () trivial
  rw [getK_lt hi, if_neg (by simp)]
  exact hnx () trivial
theorem pl_sameT (t : BadTable) (h1 : t.Bad.length ≤ 2000) (h2 : t.Remap.length ≤ 2000) : p_spec_SameBadTable t t = some true := by
  unfold p_spec_SameBadTable
  rw [if_pos (by simp), if_pos rfl, pl_same _ h1, callK_some, if_pos rfl, pl_same _ h2, callK_some]
theorem amongO_ok {b : Int} {s : Sl00Src} (l : List Int) (hl : 0 < l.length) (hb : 0 ≤ b) (h : SrcOk (b + 2) s) : ∃ r s', p_spec_l00Src_among' s l = some (r, s') ∧ r ∈ l ∧ SrcOk b s' := by
  obtain ⟨r, s1, e1, ⟨b1, b2, b3⟩, o1⟩ := pick_ok (l.length : Int) hb h
  unfold p_spec_l00Src_among'
  have hr : r < (l.length : Int) := by
    rcases Nat.lt_or_ge 1 l.length with h | h
    · exact b2 (by omega)
    · have := b3 (by omega); omega
  rw [e1, callK_some, getK_in b1 hr]
  exact ⟨_, _, rfl, List.getElem_mem _, o1⟩

/-! ### The draw -/
theorem ex_flat {x : Option (Int × Int × Int × Int × Int × List Int × List Int)} (h : ∃ r, x = some r ∧ ∃ t c, r = flatT t c ∧ t.Bad.length ≤ 100 ∧ t.Remap.length ≤ 100) : ∃ t c, x = some (flatT t c) ∧ t.Bad.length ≤ 100 ∧ t.Remap.length ≤ 100 := by
  obtain ⟨r, e, t, c, rfl, h1, h2⟩ := h
  exact ⟨t, c, e, h1, h2⟩
theorem new_ok {g : Geometry} {sp : Int} {l : List Int} (hl : l.length ≤ 100) : ∃ t c, p_spec_NewBadTable g sp l = some (flatT t c) ∧ t.Bad.length ≤ 100 ∧ t.Remap.length ≤ 100 := by
  unfold p_spec_NewBadTable p_spec_l00Own
  rw [geo_s, callK_some]
  by_cases hg : geoB g = true
  rotate_left
  · rw [if_neg hg]; exact ⟨zT, 1, rfl, by simp, by simp⟩
  rw [if_pos hg, grd_pos (appOk_of _ _ (by omega)), callK_some]
  obtain ⟨b, e, hb⟩ := pl_shape ⟨g, sp, l, []⟩ (by dsimp only; omega)
  rw [e, callK_some]
  by_cases hbt : b = true
  rotate_left
  · rw [if_neg hbt]; exact ⟨zT, 2, rfl, by simp, by simp⟩
  have hs := hb.mp hbt
  have hs' : ∀ v, Sh ⟨g, sp, l, v⟩ := fun v => ⟨hs.geo, hs.sp, hs.lt, hs.bad⟩
  obtain ⟨g1, g2⟩ := geo_b hg
  have hsp := hs.sp
  have hlt := hs.lt
  dsimp only at hsp hlt
  have lw := log_w hs
  dsimp only at lw
  have hm := mul_le (a := g.Dies) (b := g.Blocks - sp) (by omega) (by omega)
  rw [if_pos hbt, lw, grd_pos (by omega)]
  refine ex_flat (forI_ex (fun i (v : List Int) => v.length ≤ i) (fun i hi v hv nx hnx => by
    obtain ⟨d, o, q1, q2, q3, q4, q5⟩ := hK_eq (hs' v) (i := (i : Int)) ⟨by omega, hi⟩
    dsimp only at q2 q4
    rw [(pl_home (hs' v) _).1, callK_some, pl_has _ _ (by omega), callK_some]
    by_cases hc : hK ⟨g, sp, l, v⟩ (i : Int) ∈ l
    · have ea := pl_avail_s (hs' v) l v (by omega) (by omega) (d := d) q2
      dsimp only at ea
      rw [if_pos (by simpa using hc), grd_pos (by omega), q4, ea, callK_some]
      by_cases h0 : ((((spL ⟨g, sp, l, v⟩ d).filter fun x => !(decide (x ∈ l) || decide (x ∈ v))).length : Nat) : Int) = 0
      · rw [if_pos h0]; exact ⟨_, rfl, zT, 4, rfl, by simp, by simp⟩
      · rw [if_neg h0, getK_in (by omega) (by omega), grd_pos (appOk_of _ _ (by omega))]
        exact hnx _ (by simp; omega)
    · rw [if_neg (by simpa using hc), grd_pos (appOk_of _ _ (by omega))]
      exact hnx _ (by simp; omega)) (fun v hv => ⟨_, rfl, ⟨g, sp, l, v⟩, 0, rfl, hl, by dsimp only; omega⟩) [] (by simp))
theorem geo_ok {s : Sl00Src} (h : SrcOk 1000000 s) : ∃ g s', p_spec_l07Geo s = some (g, s') ∧ (2 ≤ g.Dies ∧ g.Dies ≤ 3) ∧ (4 ≤ g.Blocks ∧ g.Blocks ≤ 7) ∧ SrcOk 900000 s' := by
  unfold p_spec_l07Geo
  obtain ⟨y1, s1, e1, ⟨b1, c1, _⟩, o1⟩ := pick_ok (b := 990000) (s := s) 2 (by omega) (h.le (by omega))
  obtain ⟨y2, s2, e2, ⟨b2, c2, _⟩, o2⟩ := pick_ok (b := 980000) (s := s1) 4 (by omega) (o1.le (by omega))
  obtain ⟨q, s3, e3, o3⟩ := one_ok (b := 970000) (s := s2) 20 (by omega) (o2.le (by omega))
  have c1 := c1 (by omega)
  have c2 := c2 (by omega)
  rw [e1, callK_some]
  dsimp only
  rw [e2, callK_some]
  dsimp only
  rw [e3, callK_some, wrap_sm (2 + y1) (by omega) (by omega), wrap_sm (4 + y2) (by omega) (by omega)]
  dsimp only
  cases q
  · rw [if_neg (by decide)]
    exact ⟨_, _, rfl, by dsimp only; omega, by dsimp only; omega, o3.le (by omega)⟩
  · rw [if_pos rfl]
    obtain ⟨z, s4, e4, _, o4⟩ := amongO_ok (b := 960000) (s := s3) ([0, 12, 16] : List Int) (by simp) (by omega) (o3.le (by omega))
    rw [e4, callK_some]
    exact ⟨_, _, rfl, by dsimp only; omega, by dsimp only; omega, o4.le (by omega)⟩
theorem draw_ok {s : Sl00Src} (h : SrcOk 1000000 s) : ∃ r, p_spec_l07Draw s = some r ∧ r.1.Bad.length ≤ 200 ∧ r.1.Remap.length ≤ 200 ∧ SrcOk 100 r.2 := by
  unfold p_spec_l07Draw p_spec_l07Count
  obtain ⟨g, s1, e1, gD, gB, o1⟩ := geo_ok h
  rw [e1, callK_some]
  dsimp only
  have hm := mul_le (a := g.Dies) (b := g.Blocks) (by omega) (by omega)
  have wc : IntKind.i64.wrap (g.Dies * g.Blocks) = g.Dies * g.Blocks := wrap_sm _ (by omega) (by omega)
  refine iterK_ex (fun (d : Nat) (st : Int × Sl00Src × List Int) => st.1 + d = g.Dies * g.Blocks ∧ 0 ≤ st.1 ∧ (st.2.2.length : Int) ≤ st.1 ∧ SrcOk (800000 - 10 * st.1) st.2.1) (fun d st hst nx hnx => ?_) (g.Dies * g.Blocks).toNat _ (by unfold NN; omega) ⟨by dsimp only; omega, by simp, by simp, o1.le (by dsimp only; omega)⟩
  obtain ⟨v2, v3, v4⟩ := st
  obtain ⟨k1, k2, k3, k4⟩ := hst
  dsimp only at k1 k2 k3 k4 ⊢
  rw [callK_some]
  by_cases hv : v2 < IntKind.i64.wrap (g.Dies * g.Blocks)
  · rw [if_pos hv]
    rw [wc] at hv
    obtain ⟨q, s2, e2, o2⟩ := one_ok (b := 800000 - 10 * v2 - 2) (s := v3) 9 (by omega) (k4.le (by omega))
    have w1 : IntKind.i64.wrap (v2 + 1) = v2 + 1 := wrap_sm _ (by omega) (by omega)
    rw [e2, callK_some, w1]
    dsimp only
    cases q
    · rw [if_neg (by decide)]
      exact hnx (d - 1) (v2 + 1, s2, v4) (by omega) ⟨by dsimp only; omega, by dsimp only; omega, by dsimp only; omega, o2.le (by dsimp only; omega)⟩
    · rw [if_pos rfl, grd_pos (appOk_of _ _ (by omega))]
      exact hnx (d - 1) (v2 + 1, s2, v4 ++ [v2]) (by omega) ⟨by dsimp only; omega, by dsimp only; omega, by simp; omega, o2.le (by dsimp only; omega)⟩
  rw [if_neg hv]
  obtain ⟨y10, s3, e3, _, o3⟩ := pick_ok (b := 500000) (s := v3) 2 (by omega) (k4.le (by omega))
  rw [e3, callK_some]
  dsimp only
  obtain ⟨t0, c0, e4, t1, t2⟩ := new_ok (g := g) (sp := IntKind.i64.wrap (1 + y10)) (l := v4) (by omega)
  rw [e4, callK_some]
  unfold flatT
  dsimp only
  by_cases hc0 : c0 = 0
  · rw [if_neg (by simpa using hc0)]
    obtain ⟨y5, s5, e5, ⟨p1, p2, _⟩, o5⟩ := pick_ok (b := 400000) (s := s3) 4 (by omega) (o3.le (by omega))
    have p2 := p2 (by omega)
    rw [e5, callK_some]
    dsimp only
    refine iterK_ex (fun (d : Nat) (st : Int × Sl00Src × Int × Int × Int × Int × (List Int) × (List Int)) => ∃ t : BadTable, st.2.2 = (t.Geo.Dies, t.Geo.Blocks, t.Geo.Pages, t.Spare, t.Bad, t.Remap) ∧ st.1 = (d : Int) ∧ d ≤ 4 ∧ t.Bad.length + d ≤ 110 ∧ t.Remap.length ≤ 100 ∧ SrcOk (1000 + 10 * (d : Int)) st.2.1) (fun d st hst nx hnx => ?_) y5.toNat _ (by unfold NN; omega) ⟨t0, rfl, by dsimp only; omega, by omega, by omega, t2, o5.le (by omega)⟩
    obtain ⟨v16, v17, v18, v19, v20, v21, v22, v23⟩ := st
    obtain ⟨t, e, r1, r2, r3, r4, r5⟩ := hst
    dsimp only at e r1 r5 ⊢
    simp only [Prod.mk.injEq] at e
    obtain ⟨rfl, rfl, rfl, rfl, rfl, rfl⟩ := e
    subst r1
    by_cases hd : (d : Int) > 0
    · rw [if_pos hd, callK_some]
      obtain ⟨y, s6, e6, _, o6⟩ := pick_ok (b := 1000 + 10 * (d : Int) - 2) (s := v17) (IntKind.i64.wrap (g.Dies * g.Blocks)) (by omega) (r5.le (by omega))
      rw [e6, callK_some]
      dsimp only
      obtain ⟨c, _, _, e7, _⟩ := pl_sRet (t := t) (by omega) (by omega) y
      have wd : IntKind.i64.wrap ((d : Int) - 1) = ((d - 1 : Nat) : Int) := by rw [wrap_sm _ (by omega) (by omega)]; omega
      rw [e7, callK_some, wd]
      by_cases hc : c = 0
      · rw [if_pos hc]
        unfold flatT
        dsimp only
        rw [if_pos rfl]
        refine hnx (d - 1) _ (by omega) ⟨nxt t y, rfl, rfl, by omega, ?_, ?_, o6.le (by omega)⟩
        · show (ins y t.Bad).length + (d - 1) ≤ 110
          rw [ins_len]; omega
        · unfold nxt
          dsimp only
          split
          · rw [List.length_set]; exact r4
          · exact r4
      · rw [if_neg hc]
        unfold flatT
        dsimp only
        rw [if_neg hc]
        exact hnx (d - 1) _ (by omega) ⟨t, rfl, rfl, by omega, by omega, r4, o6.le (by omega)⟩
    · rw [if_neg hd]
      obtain ⟨q, s8, e8, o8⟩ := one_ok (b := 900) (s := v17) 10 (by omega) (r5.le (by omega))
      rw [e8, callK_some]
      dsimp only
      cases q
      · rw [if_neg (by decide)]
        exact ⟨_, rfl, by dsimp only; omega, by dsimp only; omega, o8.le (by omega)⟩
      rw [if_pos rfl]
      obtain ⟨y, s9, e9, _, o9⟩ := pick_ok (b := 800) (s := s8) 4 (by omega) (o8.le (by omega))
      rw [e9, callK_some]
      dsimp only
      by_cases c0 : y = 0
      · rw [if_pos c0]
        obtain ⟨z, sA, eA, _, oA⟩ := amongO_ok (b := 700) (s := s9) ([0, (IntKind.i64.wrap (t.Geo.Blocks - 1)), 4, 5] : List Int) (by simp) (by omega) (o9.le (by omega))
        rw [eA, callK_some]
        exact ⟨_, rfl, by dsimp only; omega, by dsimp only; omega, oA.le (by omega)⟩
      rw [if_neg c0]
      by_cases c1 : y = 1
      · rw [if_pos c1]
        obtain ⟨z, sA, eA, _, oA⟩ := amongO_ok (b := 700) (s := s9) ([(-1), 0, 50] : List Int) (by simp) (by omega) (o9.le (by omega))
        rw [eA, callK_some, grd_pos (appOk_of _ _ (by omega))]
        exact ⟨_, rfl, by simp; omega, by dsimp only; omega, oA.le (by omega)⟩
      rw [if_neg c1]
      by_cases c2 : y = 2
      · rw [if_pos c2]
        by_cases hl : (t.Remap.length : Int) > 0
        · rw [if_pos hl]
          obtain ⟨z, sA, eA, ⟨b1, b2, b3⟩, oA⟩ := pick_ok (b := 700) (s := s9) (t.Remap.length : Int) (by omega) (o9.le (by omega))
          obtain ⟨x, sB, eB, _, oB⟩ := pick_ok (b := 600) (s := sA) (IntKind.i64.wrap (g.Dies * g.Blocks)) (by omega) (oA.le (by omega))
          have hz : z < (t.Remap.length : Int) := by
            by_cases h1 : (1 : Int) < (t.Remap.length : Int)
            · exact b2 h1
            · have := b3 (by omega); omega
          rw [eA, callK_some, callK_some]
          dsimp only
          rw [eB, callK_some, getK_in b1 hz]
          exact ⟨_, rfl, by dsimp only; omega, by dsimp only; rw [List.length_set]; omega, oB.le (by omega)⟩
        · rw [if_neg hl]
          exact ⟨_, rfl, by dsimp only; omega, by dsimp only; omega, o9.le (by omega)⟩
      rw [if_neg c2]
      by_cases c3 : y = 3
      · rw [if_pos c3]
        obtain ⟨z, sA, eA, _, oA⟩ := amongO_ok (b := 700) (s := s9) ([1, 3, 4] : List Int) (by simp) (by omega) (o9.le (by omega))
        rw [eA, callK_some]
        exact ⟨_, rfl, by dsimp only; omega, by dsimp only; omega, oA.le (by omega)⟩
      · rw [if_neg c3]
        exact ⟨_, rfl, by dsimp only; omega, by dsimp only; omega, o9.le (by omega)⟩
  · rw [if_pos hc0]
    obtain ⟨y13, s4, e5, _, o4⟩ := pick_ok (b := 450000) (s := s3) 2 (by omega) (o3.le (by omega))
    rw [e5, callK_some]
    dsimp only
    have hn : ∀ a b c, p_spec_NewBadTable' a b c = p_spec_NewBadTable a b c := fun _ _ _ => rfl
    obtain ⟨t0', c0', e4', t1', t2'⟩ := new_ok (g := g) (sp := IntKind.i64.wrap (1 + y13)) (l := []) (by simp)
    rw [hn, e4', callK_some]
    unfold flatT
    dsimp only
    obtain ⟨y5, s5, e5, ⟨p1, p2, _⟩, o5⟩ := pick_ok (b := 400000) (s := s4) 4 (by omega) (o4.le (by omega))
    have p2 := p2 (by omega)
    rw [e5, callK_some]
    dsimp only
    refine iterK_ex (fun (d : Nat) (st : Int × Sl00Src × Int × Int × Int × Int × (List Int) × (List Int)) => ∃ t : BadTable, st.2.2 = (t.Geo.Dies, t.Geo.Blocks, t.Geo.Pages, t.Spare, t.Bad, t.Remap) ∧ st.1 = (d : Int) ∧ d ≤ 4 ∧ t.Bad.length + d ≤ 110 ∧ t.Remap.length ≤ 100 ∧ SrcOk (1000 + 10 * (d : Int)) st.2.1) (fun d st hst nx hnx => ?_) y5.toNat _ (by unfold NN; omega) ⟨t0', rfl, by dsimp only; omega, by omega, by omega, t2', o5.le (by omega)⟩
    obtain ⟨v16, v17, v18, v19, v20, v21, v22, v23⟩ := st
    obtain ⟨t, e, r1, r2, r3, r4, r5⟩ := hst
    dsimp only at e r1 r5 ⊢
    simp only [Prod.mk.injEq] at e
    obtain ⟨rfl, rfl, rfl, rfl, rfl, rfl⟩ := e
    subst r1
    by_cases hd : (d : Int) > 0
    · rw [if_pos hd, callK_some]
      obtain ⟨y, s6, e6, _, o6⟩ := pick_ok (b := 1000 + 10 * (d : Int) - 2) (s := v17) (IntKind.i64.wrap (g.Dies * g.Blocks)) (by omega) (r5.le (by omega))
      rw [e6, callK_some]
      dsimp only
      obtain ⟨c, _, _, e7, _⟩ := pl_sRet (t := t) (by omega) (by omega) y
      have wd : IntKind.i64.wrap ((d : Int) - 1) = ((d - 1 : Nat) : Int) := by rw [wrap_sm _ (by omega) (by omega)]; omega
      rw [e7, callK_some, wd]
      by_cases hc : c = 0
      · rw [if_pos hc]
        unfold flatT
        dsimp only
        rw [if_pos rfl]
        refine hnx (d - 1) _ (by omega) ⟨nxt t y, rfl, rfl, by omega, ?_, ?_, o6.le (by omega)⟩
        · show (ins y t.Bad).length + (d - 1) ≤ 110
          rw [ins_len]; omega
        · unfold nxt
          dsimp only
          split
          · rw [List.length_set]; exact r4
          · exact r4
      · rw [if_neg hc]
        unfold flatT
        dsimp only
        rw [if_neg hc]
        exact hnx (d - 1) _ (by omega) ⟨t, rfl, rfl, by omega, by omega, r4, o6.le (by omega)⟩
    · rw [if_neg hd]
      obtain ⟨q, s8, e8, o8⟩ := one_ok (b := 900) (s := v17) 10 (by omega) (r5.le (by omega))
      rw [e8, callK_some]
      dsimp only
      cases q
      · rw [if_neg (by decide)]
        exact ⟨_, rfl, by dsimp only; omega, by dsimp only; omega, o8.le (by omega)⟩
      rw [if_pos rfl]
      obtain ⟨y, s9, e9, _, o9⟩ := pick_ok (b := 800) (s := s8) 4 (by omega) (o8.le (by omega))
      rw [e9, callK_some]
      dsimp only
      by_cases c0 : y = 0
      · rw [if_pos c0]
        obtain ⟨z, sA, eA, _, oA⟩ := amongO_ok (b := 700) (s := s9) ([0, (IntKind.i64.wrap (t.Geo.Blocks - 1)), 4, 5] : List Int) (by simp) (by omega) (o9.le (by omega))
        rw [eA, callK_some]
        exact ⟨_, rfl, by dsimp only; omega, by dsimp only; omega, oA.le (by omega)⟩
      rw [if_neg c0]
      by_cases c1 : y = 1
      · rw [if_pos c1]
        obtain ⟨z, sA, eA, _, oA⟩ := amongO_ok (b := 700) (s := s9) ([(-1), 0, 50] : List Int) (by simp) (by omega) (o9.le (by omega))
        rw [eA, callK_some, grd_pos (appOk_of _ _ (by omega))]
        exact ⟨_, rfl, by simp; omega, by dsimp only; omega, oA.le (by omega)⟩
      rw [if_neg c1]
      by_cases c2 : y = 2
      · rw [if_pos c2]
        by_cases hl : (t.Remap.length : Int) > 0
        · rw [if_pos hl]
          obtain ⟨z, sA, eA, ⟨b1, b2, b3⟩, oA⟩ := pick_ok (b := 700) (s := s9) (t.Remap.length : Int) (by omega) (o9.le (by omega))
          obtain ⟨x, sB, eB, _, oB⟩ := pick_ok (b := 600) (s := sA) (IntKind.i64.wrap (g.Dies * g.Blocks)) (by omega) (oA.le (by omega))
          have hz : z < (t.Remap.length : Int) := by
            by_cases h1 : (1 : Int) < (t.Remap.length : Int)
            · exact b2 h1
            · have := b3 (by omega); omega
          rw [eA, callK_some, callK_some]
          dsimp only
          rw [eB, callK_some, getK_in b1 hz]
          exact ⟨_, rfl, by dsimp only; omega, by dsimp only; rw [List.length_set]; omega, oB.le (by omega)⟩
        · rw [if_neg hl]
          exact ⟨_, rfl, by dsimp only; omega, by dsimp only; omega, o9.le (by omega)⟩
      rw [if_neg c2]
      by_cases c3 : y = 3
      · rw [if_pos c3]
        obtain ⟨z, sA, eA, _, oA⟩ := amongO_ok (b := 700) (s := s9) ([1, 3, 4] : List Int) (by simp) (by omega) (o9.le (by omega))
        rw [eA, callK_some]
        exact ⟨_, rfl, by dsimp only; omega, by dsimp only; omega, oA.le (by omega)⟩
      · rw [if_neg c3]
        exact ⟨_, rfl, by dsimp only; omega, by dsimp only; omega, o9.le (by omega)⟩
theorem drawB_ok {code : List Int} (hk : ∀ x ∈ code, 0 ≤ x ∧ x ≤ 255) (hl : code.length ≤ 1048576) : ∃ t b, p_spec_DrawRetireBlock code = some (t, b) ∧ t.Bad.length ≤ 200 ∧ t.Remap.length ≤ 200 := by
  unfold p_spec_DrawRetireBlock p_spec_l07Block p_spec_l07Count
  obtain ⟨s, e, o⟩ := from_ok hk hl
  obtain ⟨r, e1, h1, h2, o1⟩ := draw_ok (o.le (by omega))
  obtain ⟨q, s2, e2, o2⟩ := one_ok (b := 50) (s := r.2) 10 (by omega) (o1.le (by omega))
  rw [e, callK_some, e1, callK_some, e2, callK_some]
  dsimp only
  cases q
  · rw [if_neg (by decide), callK_some]
    obtain ⟨y, s3, e3, _, o3⟩ := pick_ok (b := 0) (s := s2) (IntKind.i64.wrap (r.1.Geo.Dies * r.1.Geo.Blocks)) (by omega) (o2.le (by omega))
    rw [e3, callK_some, callK_some]
    exact ⟨_, _, rfl, h1, h2⟩
  · rw [if_pos rfl, callK_some]
    obtain ⟨y, s3, e3, _, o3⟩ := amongO_ok (b := 0) (s := s2) ([(-1), (IntKind.i64.wrap (r.1.Geo.Dies * r.1.Geo.Blocks)), 1099511627776] : List Int) (by simp) (by omega) (o2.le (by omega))
    rw [e3, callK_some, callK_some]
    exact ⟨_, _, rfl, h1, h2⟩
theorem pl_law (code : List Int) (hk : okL u8r code) : p_laws_FnSpares code = some true := by
  unfold p_laws_FnSpares
  by_cases hl : (code.length : Int) > 400
  · rw [if_pos hl]
  rw [if_neg hl]
  obtain ⟨t, b, e, h1, h2⟩ := drawB_ok hk.2 (by omega)
  rw [e, callK_some]
  dsimp only
  obtain ⟨c, es, ei, _, hc⟩ := pl_sRet (t := t) (by omega) (by omega) b
  rw [es, ei, callK_some, callK_some]
  by_cases c0 : c = 0
  rotate_left
  · rw [if_neg c0, if_neg c0]
    unfold flatT
    dsimp only
    rw [if_neg (by simp)]
    have := pl_sameT zT (by simp) (by simp)
    rw [this, callK_some, if_pos rfl, if_pos c0]
  obtain ⟨hV, hb, hn, hf⟩ := hc c0
  have hs := hV.sh
  obtain ⟨g1, g2⟩ := geo_b hs.geo
  obtain ⟨d1, d2⟩ := die_ok hs hb
  have hN := nxt_ok hV hb hn hf
  have l1 : (nxt t b).Bad.length ≤ 300 := by
    show (ins b t.Bad).length ≤ 300
    rw [ins_len]; omega
  have l2 : (nxt t b).Remap.length ≤ 300 := by
    unfold nxt
    dsimp only
    split
    · rw [List.length_set]; omega
    · omega
  rw [if_pos c0, if_pos c0]
  unfold flatT
  dsimp only
  rw [if_neg (by simp)]
  have hst := pl_sameT (nxt t b) (by omega) (by omega)
  have hst' : p_spec_SameBadTable (nxt t b) (⟨⟨(nxt t b).Geo.Dies, (nxt t b).Geo.Blocks, (nxt t b).Geo.Pages⟩, (nxt t b).Spare, (nxt t b).Bad, (nxt t b).Remap⟩ : BadTable) = some true := hst
  rw [hst', callK_some, if_pos rfl, if_neg (by simp), grd_pos (by omega), grd_pos (by omega), d2]
  have cnt : ∀ d, (used t b ∈ avL t d → (avL t d).length = (avL (nxt t b) d).length + 1) ∧ (used t b ∉ avL t d → (avL t d).length = (avL (nxt t b) d).length) := fun d => by
    rw [av_nxt hV hf d]
    exact fil_ne _ (av_nodup t d)
  have hu : ∀ d, used t b ∈ avL t d → d = b / t.Geo.Blocks := fun d hd => by
    rw [← spL_die hs (av_mem.mp hd).1]
    unfold used
    split
    · rename_i hx
      have hne : avL t (b / t.Geo.Blocks) ≠ [] := fun e => hf ⟨hx, e⟩
      exact spL_die hs (av_mem.mp (head_mem hne)).1
    · rfl
  have small : ∀ d, (avL t d).length ≤ 4 ∧ (avL (nxt t b) d).length ≤ 4 := fun d => ⟨av_len t d hs.sp.2, av_len (nxt t b) d hs.sp.2⟩
  refine forI_rule (fun _ _ => True) (fun i hi s _ nx hnx => ?_) (fun s _ => ?_) () trivial
  · obtain ⟨q1, q2⟩ := cnt (i : Int)
    obtain ⟨z1, z2⟩ := small (i : Int)
    rw [(pl_AS hV (by omega) (by omega) (d := (i : Int)) ⟨by omega, hi⟩).1, (pl_AS hN (by omega) (by omega) (d := (i : Int)) ⟨by omega, hi⟩).1, callK_some, callK_some]
    dsimp only
    have w : IntKind.i64.wrap (((avL (nxt t b) (i : Int)).length : Int) + 1) = ((avL (nxt t b) (i : Int)).length : Int) + 1 := wrap_sm _ (by omega) (by omega)
    rw [if_neg (by simp), if_neg (by simp), w]
    by_cases hm : used t b ∈ avL t (i : Int)
    · have q1 := q1 hm
      rw [if_neg (by rw [hu _ hm]; simp), if_neg (by omega), if_neg (by omega)]
      exact hnx () trivial
    · have q2 := q2 hm
      split
      · rw [if_neg (by omega), if_neg (by omega), if_neg (by omega)]
        exact hnx () trivial
      · rw [if_neg (by omega), if_neg (by omega)]
        exact hnx () trivial
  · obtain ⟨v, ev, _, hv⟩ := pl_V t (by omega) (by omega)
    obtain ⟨w2, w3⟩ := count_w hs.geo
    have hL : p_spec_LogicalBlock t b = some (if ixOf t.Remap b < 0 then (0, 3) else (ixOf t.Remap b, 0)) := by
      unfold p_spec_LogicalBlock p_spec_l07Count
      rw [ev, callK_some, if_pos (hv.mpr hV), callK_some, w2, w3, if_pos (inR_iff.mpr hb), pl_holder _ _ (by omega), callK_some]
      split <;> rfl
    rw [hL, callK_some, (pl_AS hV (by omega) (by omega) d1).2, (pl_AS hN (by omega) (by omega) d1).1, callK_some, callK_some]
    dsimp only
    by_cases hx : ixOf t.Remap b < 0
    · rw [if_pos hx, if_pos (by simp)]
    · rw [if_neg hx, if_neg (by simp)]
      have hne : avL t (b / t.Geo.Blocks) ≠ [] := fun e => hf ⟨by omega, e⟩
      have hm : used t b ∈ avL t (b / t.Geo.Blocks) := by unfold used; rw [if_pos (by omega)]; exact head_mem hne
      have q1 := (cnt _).1 hm
      obtain ⟨z1, z2⟩ := small (b / t.Geo.Blocks)
      have w : IntKind.i64.wrap (((avL (nxt t b) (b / t.Geo.Blocks)).length : Int) + 1) = ((avL (nxt t b) (b / t.Geo.Blocks)).length : Int) + 1 := wrap_sm _ (by omega) (by omega)
      rw [w, q1]
      simp
theorem f_law (code : List Int) (hk : okL u8r code) : callL E 5 [.d (.arr (code.map rU))] [] = some (BO true, []) := L_laws_FnSpares code (pl_law code hk)

end Go.Proofs.Ytadppokohnonpaa.T03

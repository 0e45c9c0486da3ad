/- FnLevelMoves: what its functions come to, and the row; conditions: none. -/
import Derived.Test.YtjbddmmammgmjaaT21
import Derived.Test.YtjbddmmammgmjaaEz
import Derived.Test.YtjbddmmammgmjaaRows
import Derived.WalkKit
import Derived.ProofKit
import Derived.OpenShut
import Derived.ShutString
import Derived.ChangeOld
import Derived.Below
import Derived.SizedLaws
namespace Go.Proofs.Ytjbddmmammgmjaa.T21
open Go.Proofs.YtjbddmmammgmjaaE
set_option maxRecDepth 100000
set_option linter.unusedVariables false
set_option linter.unusedSimpArgs false

noncomputable def p_spec_l00In (a_0 : Int) (a_1 : Int) (a_2 : Int) : Option Bool :=
  if a_0 ≥ a_1 then
    some (decide (a_0 ≤ a_2))
  else
    some false

set_option maxHeartbeats 4000000 in
theorem L_spec_l00In (a_0 : Int) (a_1 : Int) (a_2 : Int) {r : Bool} (h : p_spec_l00In a_0 a_1 a_2 = some r) : callL E 112 [IN a_0, IN a_1, IN a_2] ([] : Fo) = some (BO r, ([] : Fo)) := by
  unfold p_spec_l00In at h
  refine callW (fu := Try.f112) rfl rfl rfl NN ?_
  intro lp cl hlp hcl
  conv => lhs; whnf
  cases hb1 : (decide (a_0 ≥ a_1))
  · replace h := ifF h (decF hb1)
    conv => lhs; whnf
    try (rw [hb1]; conv => lhs; whnf)
    try (rw [hb1]; conv => lhs; whnf)
    try (rw [hb1]; conv => lhs; whnf)
    obtain rfl := Option.some.inj h
    show _ = _
    kernel_rfl
  · replace h := ifT h (decT hb1)
    conv => lhs; whnf
    try (rw [hb1]; conv => lhs; whnf)
    try (rw [hb1]; conv => lhs; whnf)
    try (rw [hb1]; conv => lhs; whnf)
    obtain rfl := Option.some.inj h
    show _ = _
    kernel_rfl
theorem pl_l00In (n lo hi : Int) : p_spec_l00In n lo hi = some (inR n lo hi) := by
  unfold p_spec_l00In inR
  split
  · rename_i h; simp [h]
  · rename_i h; simp [h]


noncomputable def p_impl_within (a_0 : Int) (a_1 : Int) (a_2 : Int) : Option Bool :=
  if a_0 ≥ a_1 then
    some (decide (a_0 ≤ a_2))
  else
    some false

set_option maxHeartbeats 4000000 in
theorem L_impl_within (a_0 : Int) (a_1 : Int) (a_2 : Int) {r : Bool} (h : p_impl_within a_0 a_1 a_2 = some r) : callL E 107 [IN a_0, IN a_1, IN a_2] ([] : Fo) = some (BO r, ([] : Fo)) := by
  unfold p_impl_within at h
  refine callW (fu := Try.f107) rfl rfl rfl NN ?_
  intro lp cl hlp hcl
  conv => lhs; whnf
  cases hb1 : (decide (a_0 ≥ a_1))
  · replace h := ifF h (decF hb1)
    conv => lhs; whnf
    try (rw [hb1]; conv => lhs; whnf)
    try (rw [hb1]; conv => lhs; whnf)
    try (rw [hb1]; conv => lhs; whnf)
    obtain rfl := Option.some.inj h
    show _ = _
    kernel_rfl
  · replace h := ifT h (decT hb1)
    conv => lhs; whnf
    try (rw [hb1]; conv => lhs; whnf)
    try (rw [hb1]; conv => lhs; whnf)
    try (rw [hb1]; conv => lhs; whnf)
    obtain rfl := Option.some.inj h
    show _ = _
    kernel_rfl
theorem pl_within (n lo hi : Int) : p_impl_within n lo hi = some (inR n lo hi) := by
  unfold p_impl_within inR
  split
  · rename_i h; simp [h]
  · rename_i h; simp [h]



structure Sl00Src where
  Code : List Int
  At : Int
  Seed : Int
def rSl00Src (x : Sl00Src) : List D := [.arr (x.Code.map rU), dI x.At, .lit (.int .u64 x.Seed)]

noncomputable def p_spec_l00From (a_0 : List Int) : Option Sl00Src :=
  some (⟨a_0, 0, 0⟩ : Sl00Src)

set_option maxHeartbeats 4000000 in
theorem L_spec_l00From (a_0 : List Int) {r : Sl00Src} (h : p_spec_l00From a_0 = some r) : callL E 103 [.d (.arr (a_0.map rU))] ([] : Fo) = some (.bp 0 0, ([some (.box [.d (.arr (r.Code.map rU)), IN r.At, .d (.lit (.int .u64 r.Seed))])] : Fo)) := by
  unfold p_spec_l00From at h
  refine callW (fu := Try.f103) rfl rfl rfl NN ?_
  intro lp cl hlp hcl
  conv => lhs; whnf
  obtain rfl := Option.some.inj h
  show _ = _
  kernel_rfl

noncomputable def p_spec_l00Src_next (a_0 : Sl00Src) : Option (Int × Sl00Src) :=
  if a_0.At < (a_0.Code.length : Int) then
    getK a_0.Code a_0.At fun x2 =>
    if (IntKind.i64.wrap (a_0.At + 1)) ≤ (a_0.Code.length : Int) then
      some ((IntKind.i64.wrap x2), (⟨a_0.Code, (IntKind.i64.wrap (a_0.At + 1)), (IntKind.u64.wrap ((IntKind.u64.wrap ((IntKind.u64.wrap (a_0.Seed * 6364136223846793005)) + (IntKind.u64.wrap (IntKind.i64.wrap x2)))) + 1442695040888963407))⟩ : Sl00Src))
    else
      some ((IntKind.i64.wrap (andK .u64 (Int.fdiv (IntKind.u64.wrap ((IntKind.u64.wrap ((IntKind.u64.wrap (a_0.Seed * 6364136223846793005)) + (IntKind.u64.wrap (IntKind.i64.wrap x2)))) + 1442695040888963407)) (2 ^ (min (Int.toNat 40) IntKind.u64.bits))) 255)), (⟨a_0.Code, (IntKind.i64.wrap (a_0.At + 1)), (IntKind.u64.wrap ((IntKind.u64.wrap ((IntKind.u64.wrap (a_0.Seed * 6364136223846793005)) + (IntKind.u64.wrap (IntKind.i64.wrap x2)))) + 1442695040888963407))⟩ : Sl00Src))
  else
    if (IntKind.i64.wrap (a_0.At + 1)) ≤ (a_0.Code.length : Int) then
      some (0, (⟨a_0.Code, (IntKind.i64.wrap (a_0.At + 1)), (IntKind.u64.wrap ((IntKind.u64.wrap ((IntKind.u64.wrap (a_0.Seed * 6364136223846793005)) + (IntKind.u64.wrap 0))) + 1442695040888963407))⟩ : Sl00Src))
    else
      some ((IntKind.i64.wrap (andK .u64 (Int.fdiv (IntKind.u64.wrap ((IntKind.u64.wrap ((IntKind.u64.wrap (a_0.Seed * 6364136223846793005)) + (IntKind.u64.wrap 0))) + 1442695040888963407)) (2 ^ (min (Int.toNat 40) IntKind.u64.bits))) 255)), (⟨a_0.Code, (IntKind.i64.wrap (a_0.At + 1)), (IntKind.u64.wrap ((IntKind.u64.wrap ((IntKind.u64.wrap (a_0.Seed * 6364136223846793005)) + (IntKind.u64.wrap 0))) + 1442695040888963407))⟩ : Sl00Src))

set_option maxHeartbeats 4000000 in
theorem L_spec_l00Src_next (a_0 : Sl00Src) {r : (Int × Sl00Src)} (h : p_spec_l00Src_next a_0 = some r) : callL E 217 [.bp 0 0] ([some (.box [.d (.arr (a_0.Code.map rU)), IN a_0.At, .d (.lit (.int .u64 a_0.Seed))])] : Fo) = some (IN r.1, ([some (.box [.d (.arr (r.2.Code.map rU)), IN r.2.At, .d (.lit (.int .u64 r.2.Seed))])] : Fo)) := by
  unfold p_spec_l00Src_next at h
  refine callW (fu := Try.f217) rfl rfl rfl NN ?_
  intro lp cl hlp hcl
  conv => lhs; whnf
  try rw [len_of (l := a_0.Code) (r := rU)]
  cases hb1 : (decide (a_0.At < (a_0.Code.length : Int)))
  · replace h := ifF h (decF hb1)
    conv => lhs; whnf
    try rw [len_of (l := a_0.Code) (r := rU)]
    cases hb4 : (decide ((IntKind.i64.wrap (a_0.At + 1)) ≤ (a_0.Code.length : Int)))
    · replace h := ifF h (decF hb4)
      conv => lhs; whnf
      obtain rfl := Option.some.inj h
      show _ = _
      kernel_rfl
    · replace h := ifT h (decT hb4)
      conv => lhs; whnf
      obtain rfl := Option.some.inj h
      show _ = _
      kernel_rfl
  · replace h := ifT h (decT hb1)
    conv => lhs; whnf
    obtain ⟨x2, hq_x2, hx_x2', h⟩ := getK_inv h
    have hx_x2 := get_of (r := rU) hx_x2'
    try (rw [decide_eq_true hq_x2]; conv => lhs; whnf)
    rw [hx_x2]
    conv => lhs; whnf
    rw [hx_x2]
    conv => lhs; whnf
    try rw [len_of (l := a_0.Code) (r := rU)]
    cases hb3 : (decide ((IntKind.i64.wrap (a_0.At + 1)) ≤ (a_0.Code.length : Int)))
    · replace h := ifF h (decF hb3)
      conv => lhs; whnf
      obtain rfl := Option.some.inj h
      show _ = _
      kernel_rfl
    · replace h := ifT h (decT hb3)
      conv => lhs; whnf
      obtain rfl := Option.some.inj h
      show _ = _
      kernel_rfl

noncomputable def p_spec_l00Src_pick (a_0 : Int) (a_1 : Sl00Src) : Option (Int × Sl00Src) :=
  if a_0 ≤ 1 then
    some (0, a_1)
  else
    callK (p_spec_l00Src_next a_1) fun y2 =>
    if a_0 > 200 then
      callK (p_spec_l00Src_next y2.2) fun y4 =>
      grd (a_0 ≠ 0) <|
      some ((Int.tmod (IntKind.i64.wrap ((IntKind.i64.wrap (y2.1 * 256)) + y4.1)) a_0), y4.2)
    else
      grd (a_0 ≠ 0) <|
      some ((Int.tmod y2.1 a_0), y2.2)

set_option maxHeartbeats 4000000 in
theorem L_spec_l00Src_pick (a_0 : Int) (a_1 : Sl00Src) {r : (Int × Sl00Src)} (h : p_spec_l00Src_pick a_0 a_1 = some r) : callL E 122 [.bp 0 0, IN a_0] ([some (.box [.d (.arr (a_1.Code.map rU)), IN a_1.At, .d (.lit (.int .u64 a_1.Seed))])] : Fo) = some (IN r.1, ([some (.box [.d (.arr (r.2.Code.map rU)), IN r.2.At, .d (.lit (.int .u64 r.2.Seed))])] : Fo)) := by
  unfold p_spec_l00Src_pick at h
  refine callW (fu := Try.f122) rfl rfl rfl NN ?_
  intro lp cl hlp hcl
  conv => lhs; whnf
  cases hb1 : (decide (a_0 ≤ 1))
  · replace h := ifF h (decF hb1)
    conv => lhs; whnf
    obtain ⟨y2, h_y2, h⟩ := callK_inv h
    rw [cl_eq hcl (L_spec_l00Src_next a_1 h_y2)]
    rotate_left
    · show _ = _
      kernel_rfl
    · show _ = _
      kernel_rfl
    conv => lhs; whnf
    cases hb3 : (decide (a_0 > 200))
    · replace h := ifF h (decF hb3)
      conv => lhs; whnf
      obtain ⟨hg5, h⟩ := grd_inv h
      rw [rem_run _ _ _ _ hg5]
      conv => lhs; whnf
      obtain rfl := Option.some.inj h
      show _ = _
      kernel_rfl
    · replace h := ifT h (decT hb3)
      conv => lhs; whnf
      obtain ⟨y4, h_y4, h⟩ := callK_inv h
      rw [cl_eq hcl (L_spec_l00Src_next y2.2 h_y4)]
      rotate_left
      · show _ = _
        kernel_rfl
      · show _ = _
        kernel_rfl
      conv => lhs; whnf
      obtain ⟨hg6, h⟩ := grd_inv h
      rw [rem_run _ _ _ _ hg6]
      conv => lhs; whnf
      obtain rfl := Option.some.inj h
      show _ = _
      kernel_rfl
  · replace h := ifT h (decT hb1)
    conv => lhs; whnf
    obtain rfl := Option.some.inj h
    show _ = _
    kernel_rfl
/-- A source of choices from which as many may still be drawn. -/
structure SrcOk (b : Int) (s : Sl00Src) : Prop where
  code : ∀ x ∈ s.Code, 0 ≤ x ∧ x ≤ 255
  len : s.Code.length ≤ 1048576
  lo : 0 ≤ s.At
  hi : s.At + b ≤ 4611686018427387904
theorem SrcOk.le {b c : Int} {s : Sl00Src} (h : SrcOk b s) (hc : c ≤ b) : SrcOk c s := ⟨h.1, h.2, h.3, by have := h.4; omega⟩
theorem nxV_in (sd : Int) : 0 ≤ IntKind.i64.wrap (andK .u64 sd 255) ∧ IntKind.i64.wrap (andK .u64 sd 255) ≤ 255 := by
  unfold andK
  generalize BitVec.ofInt IntKind.u64.bits sd = a
  have h1 : (a &&& BitVec.ofInt IntKind.u64.bits 255).toNat ≤ 255 := by
    rw [BitVec.toNat_and]
    exact Nat.le_trans Nat.and_le_right (by decide)
  generalize (a &&& BitVec.ofInt IntKind.u64.bits 255).toNat = m at h1
  have e1 : IntKind.u64.wrap (m : Int) = m := by unfold IntKind.wrap; simp [IntKind.signed, IntKind.bits]; omega
  rw [e1, wrap_sm _ (by omega) (by omega)]
  omega
theorem next_ok {b : Int} {s : Sl00Src} (hb : 0 ≤ b) (h : SrcOk (b + 1) s) : ∃ v s', p_spec_l00Src_next s = some (v, s') ∧ (0 ≤ v ∧ v ≤ 255) ∧ SrcOk b s' := by
  obtain ⟨h1, h2, h3, h4⟩ := h
  have hw : IntKind.i64.wrap (s.At + 1) = s.At + 1 := wrap_sm _ (by omega) (by omega)
  unfold p_spec_l00Src_next
  rw [hw]
  split
  · rename_i hlt
    rw [getK_in h3 hlt]
    have hb := h1 _ (List.getElem_mem (show s.At.toNat < s.Code.length by omega))
    rw [if_pos (by omega)]
    exact ⟨_, _, rfl, by rw [wrap_sm _ (by omega) (by omega)]; exact hb, h1, h2, by show 0 ≤ s.At + 1; omega, by show s.At + 1 + b ≤ _; omega⟩
  · rename_i hlt
    rw [if_neg (by omega)]
    exact ⟨_, _, rfl, nxV_in _, h1, h2, by show 0 ≤ s.At + 1; omega, by show s.At + 1 + b ≤ _; omega⟩
theorem pick_ok {b : Int} {s : Sl00Src} (m : Int) (hb : 0 ≤ b) (h : SrcOk (b + 2) s) : ∃ r s', p_spec_l00Src_pick m s = some (r, s') ∧ (0 ≤ r ∧ (1 < m → r < m) ∧ (m ≤ 1 → r = 0)) ∧ SrcOk b s' := by
  unfold p_spec_l00Src_pick
  split
  · rename_i hm
    exact ⟨0, s, rfl, ⟨by omega, fun h => by omega, fun _ => rfl⟩, h.le (by omega)⟩
  · rename_i hm
    obtain ⟨v1, s1, e1, b1, o1⟩ := next_ok (b := b + 1) (by omega) (h.le (by omega))
    rw [e1, callK_some]
    split
    · obtain ⟨v2, s2, e2, b2, o2⟩ := next_ok hb o1
      rw [e2, callK_some, grd_pos (by omega)]
      have w1 : IntKind.i64.wrap (v1 * 256) = v1 * 256 := wrap_sm _ (by omega) (by omega)
      have w2 : IntKind.i64.wrap (v1 * 256 + v2) = v1 * 256 + v2 := wrap_sm _ (by omega) (by omega)
      refine ⟨_, _, rfl, ?_, o2⟩
      show 0 ≤ Int.tmod (IntKind.i64.wrap (IntKind.i64.wrap (v1 * 256) + v2)) m ∧ _
      rw [w1, w2]
      exact ⟨Int.tmod_nonneg _ (by omega), fun _ => Int.tmod_lt_of_pos _ (by omega), fun h3 => by omega⟩
    · rw [grd_pos (by omega)]
      exact ⟨_, _, rfl, ⟨Int.tmod_nonneg _ b1.1, fun _ => Int.tmod_lt_of_pos _ (by omega), fun h3 => by omega⟩, o1.le (by omega)⟩
theorem from_ok {code : List Int} (h : ∀ x ∈ code, 0 ≤ x ∧ x ≤ 255) (hl : code.length ≤ 1048576) : ∃ s, p_spec_l00From code = some s ∧ SrcOk 1099511627776 s :=
  ⟨_, rfl, h, hl, by show (0 : Int) ≤ 0; omega, by show (0 : Int) + 1099511627776 ≤ _; omega⟩

noncomputable def p_spec_l00Src_among (a_0 : List Int) (a_1 : Sl00Src) : Option (Int × Sl00Src) :=
  callK (p_spec_l00Src_pick (a_0.length : Int) a_1) fun y1 =>
  getK a_0 y1.1 fun x2 =>
  some (x2, y1.2)

set_option maxHeartbeats 4000000 in
theorem L_spec_l00Src_among (a_0 : List Int) (a_1 : Sl00Src) {r : (Int × Sl00Src)} (h : p_spec_l00Src_among a_0 a_1 = some r) : callL E 105 [.bp 0 0, .d (.arr (a_0.map rI))] ([some (.box [.d (.arr (a_1.Code.map rU)), IN a_1.At, .d (.lit (.int .u64 a_1.Seed))])] : Fo) = some (IN r.1, ([some (.box [.d (.arr (r.2.Code.map rU)), IN r.2.At, .d (.lit (.int .u64 r.2.Seed))])] : Fo)) := by
  unfold p_spec_l00Src_among at h
  refine callW (fu := Try.f105) rfl rfl rfl NN ?_
  intro lp cl hlp hcl
  conv => lhs; whnf
  try rw [len_of (l := a_0) (r := rI)]
  obtain ⟨y1, h_y1, h⟩ := callK_inv h
  rw [cl_eq hcl (L_spec_l00Src_pick (a_0.length : Int) a_1 h_y1)]
  rotate_left
  · show _ = _
    kernel_rfl
  · show _ = _
    kernel_rfl
  conv => lhs; whnf
  obtain ⟨x2, hq_x2, hx_x2', h⟩ := getK_inv h
  have hx_x2 := get_of (r := rI) hx_x2'
  try (rw [decide_eq_true hq_x2]; conv => lhs; whnf)
  rw [hx_x2]
  conv => lhs; whnf
  rw [hx_x2]
  conv => lhs; whnf
  obtain rfl := Option.some.inj h
  show _ = _
  kernel_rfl
theorem among_ok {b : Int} {s : Sl00Src} (l : List Int) (hl : 0 < l.length) (hb : 0 ≤ b) (h : SrcOk (b + 2) s) : ∃ r s', p_spec_l00Src_among l s = some (r, s') ∧ r ∈ l ∧ SrcOk b s' := by
  obtain ⟨r, s1, e1, ⟨b1, b2, b3⟩, o1⟩ := pick_ok (l.length : Int) hb h
  unfold p_spec_l00Src_among
  have hr : r < (l.length : Int) := by
    rcases Nat.lt_or_ge 1 l.length with h | h
    · exact b2 (by omega)
    · have := b3 (by omega); omega
  rw [e1, callK_some, getK_in b1 hr]
  exact ⟨_, _, rfl, List.getElem_mem _, o1⟩

noncomputable def p_spec_l00Src_one (a_0 : Int) (a_1 : Sl00Src) : Option (Bool × Sl00Src) :=
  callK (p_spec_l00Src_pick a_0 a_1) fun y1 =>
  some ((y1.1 == 0), y1.2)

set_option maxHeartbeats 4000000 in
theorem L_spec_l00Src_one (a_0 : Int) (a_1 : Sl00Src) {r : (Bool × Sl00Src)} (h : p_spec_l00Src_one a_0 a_1 = some r) : callL E 130 [.bp 0 0, IN a_0] ([some (.box [.d (.arr (a_1.Code.map rU)), IN a_1.At, .d (.lit (.int .u64 a_1.Seed))])] : Fo) = some (BO r.1, ([some (.box [.d (.arr (r.2.Code.map rU)), IN r.2.At, .d (.lit (.int .u64 r.2.Seed))])] : Fo)) := by
  unfold p_spec_l00Src_one at h
  refine callW (fu := Try.f130) rfl rfl rfl NN ?_
  intro lp cl hlp hcl
  conv => lhs; whnf
  obtain ⟨y1, h_y1, h⟩ := callK_inv h
  rw [cl_eq hcl (L_spec_l00Src_pick a_0 a_1 h_y1)]
  rotate_left
  · show _ = _
    kernel_rfl
  · show _ = _
    kernel_rfl
  conv => lhs; whnf
  obtain rfl := Option.some.inj h
  show _ = _
  kernel_rfl
theorem one_ok {b : Int} {s : Sl00Src} (m : Int) (hb : 0 ≤ b) (h : SrcOk (b + 2) s) : ∃ r s', p_spec_l00Src_one m s = some (r, s') ∧ SrcOk b s' := by
  obtain ⟨r, s1, e1, _, o1⟩ := pick_ok m hb h
  unfold p_spec_l00Src_one
  rw [e1, callK_some]
  exact ⟨_, _, rfl, o1⟩

noncomputable def p_spec_l00Src_among' (a_0 : Sl00Src) (a_1 : List Int) : Option (Int × Sl00Src) :=
  callK (p_spec_l00Src_pick (a_1.length : Int) a_0) fun y1 =>
  getK a_1 y1.1 fun x2 =>
  some (x2, y1.2)

set_option maxHeartbeats 4000000 in
theorem L_spec_l00Src_among' (a_0 : Sl00Src) (a_1 : List Int) {r : (Int × Sl00Src)} (h : p_spec_l00Src_among' a_0 a_1 = some r) : callL E 105 [.bp 0 0, .sl 1] ([some (.box [.d (.arr (a_0.Code.map rU)), IN a_0.At, .d (.lit (.int .u64 a_0.Seed))]), some (.arr 2 1 (a_1.map rI))] : Fo) = some (IN r.1, ([some (.box [.d (.arr (r.2.Code.map rU)), IN r.2.At, .d (.lit (.int .u64 r.2.Seed))]), some (.arr 2 1 (a_1.map rI))] : Fo)) := by
  unfold p_spec_l00Src_among' at h
  refine callW (fu := Try.f105) rfl rfl rfl NN ?_
  intro lp cl hlp hcl
  conv => lhs; whnf
  try rw [len_of (l := a_1) (r := rI)]
  obtain ⟨y1, h_y1, h⟩ := callK_inv h
  rw [cl_eq hcl (L_spec_l00Src_pick (a_1.length : Int) a_0 h_y1)]
  rotate_left
  · show _ = _
    kernel_rfl
  · show _ = _
    kernel_rfl
  conv => lhs; whnf
  obtain ⟨x2, hq_x2, hx_x2', h⟩ := getK_inv h
  have hx_x2 := get_of (r := rI) hx_x2'
  try (rw [decide_eq_true hq_x2]; conv => lhs; whnf)
  rw [hx_x2]
  conv => lhs; whnf
  rw [hx_x2]
  conv => lhs; whnf
  obtain rfl := Option.some.inj h
  show _ = _
  kernel_rfl

noncomputable def p_spec_l12Draw (a_0 : Sl00Src) : Option (Wear × Sl00Src) :=
  callK (p_spec_l00Src_pick 4 a_0) fun y1 =>
  callK (p_spec_l00Src_pick 8 y1.2) fun y2 =>
  iterK (fun ((v3, v4, v5, v6, v7) : (Int × Sl00Src × (List Int) × (List Bool) × (List Int))) (nx8 : (Int × Sl00Src × (List Int) × (List Bool) × (List Int)) → Option _) =>
    if v3 > 0 then
      callK (p_spec_l00Src_one 8 v4) fun y10 =>
      callK (p_spec_l00Src_pick 10 y10.2) fun y11 =>
      grd (appOk (v5.length + 1) 8 = true) <|
      grd (appOk (v6.length + 1) 1 = true) <|
      if y10.1 = true then
        grd (appOk (v7.length + 1) 8 = true) <|
        nx8 ((IntKind.i64.wrap (v3 - 1)), y11.2, (v5 ++ ([y11.1] : List Int)), (v6 ++ ([y10.1] : List Bool)), (v7 ++ ([0] : List Int)))
      else
        callK (p_spec_l00Src_pick 3 y11.2) fun y13 =>
        grd (appOk (v7.length + 1) 8 = true) <|
        nx8 ((IntKind.i64.wrap (v3 - 1)), y13.2, (v5 ++ ([y11.1] : List Int)), (v6 ++ ([y10.1] : List Bool)), (v7 ++ ([y13.1] : List Int)))
    else
      callK (p_spec_l00Src_one 12 v4) fun y14 =>
      if y14.1 = true then
        callK (p_spec_l00Src_pick (v5.length : Int) y14.2) fun y16 =>
        callK (p_spec_l00Src_pick 6 y16.2) fun y17 =>
        if y17.1 = 0 then
          callK (p_spec_l00Src_among' y17.2 ([(-1), 1000, 1001] : List Int)) fun y19 =>
          getK v5 y16.1 fun x20 =>
          some ((⟨(v5.set (Int.toNat y16.1) y19.1), v6, v7, (IntKind.i64.wrap (1 + y1.1))⟩ : Wear), y19.2)
        else
          if y17.1 = 1 then
            callK (p_spec_l00Src_among' y17.2 ([(-1), 3] : List Int)) fun y22 =>
            getK v7 y16.1 fun x23 =>
            some ((⟨v5, v6, (v7.set (Int.toNat y16.1) y22.1), (IntKind.i64.wrap (1 + y1.1))⟩ : Wear), y22.2)
          else
            if y17.1 = 2 then
              callK (p_spec_l00Src_among' y17.2 ([0, 100, 101] : List Int)) fun y25 =>
              some ((⟨v5, v6, v7, y25.1⟩ : Wear), y25.2)
            else
              if y17.1 = 3 then
                grd (0 ≤ 1 ∧ 1 ≤ (v6.length : Int) ∧ (v6.length : Int) ≤ (v6.length : Int)) <|
                some ((⟨v5, ((v6.drop (Int.toNat 1)).take (Int.toNat (v6.length : Int) - Int.toNat 1)), v7, (IntKind.i64.wrap (1 + y1.1))⟩ : Wear), y17.2)
              else
                if y17.1 = 4 then
                  getK v6 y16.1 fun x28 =>
                  some ((⟨v5, (v6.set (Int.toNat y16.1) true), v7, (IntKind.i64.wrap (1 + y1.1))⟩ : Wear), y17.2)
                else
                  if y17.1 = 5 then
                    some ((⟨([] : List Int), ([] : List Bool), ([] : List Int), 1⟩ : Wear), y17.2)
                  else
                    some ((⟨v5, v6, v7, (IntKind.i64.wrap (1 + y1.1))⟩ : Wear), y17.2)
      else
        some ((⟨v5, v6, v7, (IntKind.i64.wrap (1 + y1.1))⟩ : Wear), y14.2)) NN ((IntKind.i64.wrap (1 + y2.1)), y2.2, ([] : List Int), ([] : List Bool), ([] : List Int))

set_option maxHeartbeats 4000000 in
theorem L_spec_l12Draw (a_0 : Sl00Src) {r : (Wear × Sl00Src)} (h : p_spec_l12Draw a_0 = some r) : callL E 141 [.bp 0 0] ([some (.box [.d (.arr (a_0.Code.map rU)), IN a_0.At, .d (.lit (.int .u64 a_0.Seed))])] : Fo) = some (.agg [.d (.arr (r.1.Erases.map rI)), .d (.arr (r.1.Bad.map rB)), .d (.arr (r.1.Content.map rI)), IN r.1.Bound], ([some (.box [.d (.arr (r.2.Code.map rU)), IN r.2.At, .d (.lit (.int .u64 r.2.Seed))])] : Fo)) := by
  unfold p_spec_l12Draw at h
  refine callW (fu := Try.f141) rfl rfl rfl NN ?_
  intro lp cl hlp hcl
  conv => lhs; whnf
  obtain ⟨y1, h_y1, h⟩ := callK_inv h
  rw [cl_eq hcl (L_spec_l00Src_pick 4 a_0 h_y1)]
  rotate_left
  · show _ = _
    kernel_rfl
  · show _ = _
    kernel_rfl
  conv => lhs; whnf
  obtain ⟨y2, h_y2, h⟩ := callK_inv h
  rw [cl_eq hcl (L_spec_l00Src_pick 8 y1.2 h_y2)]
  rotate_left
  · show _ = _
    kernel_rfl
  · show _ = _
    kernel_rfl
  conv => lhs; whnf
  refine loop_iter hlp (fun ((v3, v4, v5, v6, v7) : (Int × Sl00Src × (List Int) × (List Bool) × (List Int))) => ([.bp 0 0, .dead, .bp 1 0, .bp 2 0, IN v3] ++ List.replicate 90 .dead : List V)) (fun ((v3, v4, v5, v6, v7) : (Int × Sl00Src × (List Int) × (List Bool) × (List Int))) => ([some (.box [.d (.arr (v4.Code.map rU)), IN v4.At, .d (.lit (.int .u64 v4.Seed))]), some (.box [.d (.arr (([] : List Int).map rI)), .d (.arr (([] : List Bool).map rB)), .d (.arr (([] : List Int).map rI)), IN 0]), some (.box [.sl 3, .sl 4, .sl 5, IN (IntKind.i64.wrap (1 + y1.1))]), some (.arr 2 1 (v5.map rI)), some (.arr 4 1 (v6.map rB)), some (.arr 2 1 (v7.map rI))] : Fo)) (fun (r : (Wear × Sl00Src)) => ((.agg [.d (.arr (r.1.Erases.map rI)), .d (.arr (r.1.Bad.map rB)), .d (.arr (r.1.Content.map rI)), IN r.1.Bound] : V), ([some (.box [.d (.arr (r.2.Code.map rU)), IN r.2.At, .d (.lit (.int .u64 r.2.Seed))])] : Fo))) ?_ ((IntKind.i64.wrap (1 + y2.1)), y2.2, ([] : List Int), ([] : List Bool), ([] : List Int)) _ (fun kk => by kernel_rfl) h
  clear h
  rintro next_nx8 nx8 hnx8 ⟨v3, v4, v5, v6, v7⟩ r h
  try dsimp only at h
  conv => lhs; whnf
  cases hb9 : (decide (v3 > 0))
  · replace h := ifF h (decF hb9)
    conv => lhs; whnf
    obtain ⟨y14, h_y14, h⟩ := callK_inv h
    rw [cl_eq hcl (L_spec_l00Src_one 12 v4 h_y14)]
    rotate_left
    · show _ = _
      kernel_rfl
    · show _ = _
      kernel_rfl
    conv => lhs; whnf
    cases hb15 : y14.1
    · replace h := ifF h (booF hb15)
      conv => lhs; whnf
      obtain rfl := Option.some.inj h
      show _ = _
      kernel_rfl
    · replace h := ifT h hb15
      conv => lhs; whnf
      try rw [len_of (l := v5) (r := rI)]
      obtain ⟨y16, h_y16, h⟩ := callK_inv h
      rw [cl_eq hcl (L_spec_l00Src_pick (v5.length : Int) y14.2 h_y16)]
      rotate_left
      · show _ = _
        kernel_rfl
      · show _ = _
        kernel_rfl
      conv => lhs; whnf
      obtain ⟨y17, h_y17, h⟩ := callK_inv h
      rw [cl_eq hcl (L_spec_l00Src_pick 6 y16.2 h_y17)]
      rotate_left
      · show _ = _
        kernel_rfl
      · show _ = _
        kernel_rfl
      conv => lhs; whnf
      cases hb18 : (y17.1 == 0)
      · replace h := ifF h (beqF hb18)
        conv => lhs; whnf
        cases hb21 : (y17.1 == 1)
        · replace h := ifF h (beqF hb21)
          conv => lhs; whnf
          cases hb24 : (y17.1 == 2)
          · replace h := ifF h (beqF hb24)
            conv => lhs; whnf
            cases hb26 : (y17.1 == 3)
            · replace h := ifF h (beqF hb26)
              conv => lhs; whnf
              cases hb27 : (y17.1 == 4)
              · replace h := ifF h (beqF hb27)
                conv => lhs; whnf
                cases hb29 : (y17.1 == 5)
                · replace h := ifF h (beqF hb29)
                  conv => lhs; whnf
                  obtain rfl := Option.some.inj h
                  show _ = _
                  kernel_rfl
                · replace h := ifT h (beqT hb29)
                  conv => lhs; whnf
                  obtain rfl := Option.some.inj h
                  show _ = _
                  kernel_rfl
              · replace h := ifT h (beqT hb27)
                conv => lhs; whnf
                obtain ⟨x28, hq_x28, hx_x28', h⟩ := getK_inv h
                have hx_x28 := get_of (r := rB) hx_x28'
                try (rw [decide_eq_true hq_x28]; conv => lhs; whnf)
                rw [hx_x28]
                conv => lhs; whnf
                rw [hx_x28]
                conv => lhs; whnf
                first | (rw [map_set_of (r := rB) (l := v6) (x := true) ?hh]; case hh => exact rfl) | skip
                obtain rfl := Option.some.inj h
                show _ = _
                kernel_rfl
            · replace h := ifT h (beqT hb26)
              conv => lhs; whnf
              skip
              obtain ⟨hg30, h⟩ := grd_inv h
              try (rw [allLen_map rB _ rB_len]; conv => lhs; whnf)
              try rw [List.length_map]
              try (rw [decide_eq_true hg30.1]; conv => lhs; whnf)
              try (rw [decide_eq_true hg30.2.1]; conv => lhs; whnf)
              try (rw [decide_eq_true hg30.2.2])
              conv => lhs; whnf
              try rw [cut_of (r := rB) (l := v6)]
              obtain rfl := Option.some.inj h
              show _ = _
              kernel_rfl
          · replace h := ifT h (beqT hb24)
            conv => lhs; whnf
            obtain ⟨y25, h_y25, h⟩ := callK_inv h
            rw [cl_eq hcl (L_spec_l00Src_among' y17.2 ([0, 100, 101] : List Int) h_y25)]
            rotate_left
            · show _ = _
              kernel_rfl
            · show _ = _
              kernel_rfl
            conv => lhs; whnf
            obtain rfl := Option.some.inj h
            show _ = _
            kernel_rfl
        · replace h := ifT h (beqT hb21)
          conv => lhs; whnf
          obtain ⟨y22, h_y22, h⟩ := callK_inv h
          rw [cl_eq hcl (L_spec_l00Src_among' y17.2 ([(-1), 3] : List Int) h_y22)]
          rotate_left
          · show _ = _
            kernel_rfl
          · show _ = _
            kernel_rfl
          conv => lhs; whnf
          obtain ⟨x23, hq_x23, hx_x23', h⟩ := getK_inv h
          have hx_x23 := get_of (r := rI) hx_x23'
          try (rw [decide_eq_true hq_x23]; conv => lhs; whnf)
          rw [hx_x23]
          conv => lhs; whnf
          rw [hx_x23]
          conv => lhs; whnf
          first | (rw [map_set_of (r := rI) (l := v7) (x := y22.1) ?hh]; case hh => exact rfl) | skip
          obtain rfl := Option.some.inj h
          show _ = _
          kernel_rfl
      · replace h := ifT h (beqT hb18)
        conv => lhs; whnf
        obtain ⟨y19, h_y19, h⟩ := callK_inv h
        rw [cl_eq hcl (L_spec_l00Src_among' y17.2 ([(-1), 1000, 1001] : List Int) h_y19)]
        rotate_left
        · show _ = _
          kernel_rfl
        · show _ = _
          kernel_rfl
        conv => lhs; whnf
        obtain ⟨x20, hq_x20, hx_x20', h⟩ := getK_inv h
        have hx_x20 := get_of (r := rI) hx_x20'
        try (rw [decide_eq_true hq_x20]; conv => lhs; whnf)
        rw [hx_x20]
        conv => lhs; whnf
        rw [hx_x20]
        conv => lhs; whnf
        first | (rw [map_set_of (r := rI) (l := v5) (x := y19.1) ?hh]; case hh => exact rfl) | skip
        obtain rfl := Option.some.inj h
        show _ = _
        kernel_rfl
  · replace h := ifT h (decT hb9)
    conv => lhs; whnf
    obtain ⟨y10, h_y10, h⟩ := callK_inv h
    rw [cl_eq hcl (L_spec_l00Src_one 8 v4 h_y10)]
    rotate_left
    · show _ = _
      kernel_rfl
    · show _ = _
      kernel_rfl
    conv => lhs; whnf
    obtain ⟨y11, h_y11, h⟩ := callK_inv h
    rw [cl_eq hcl (L_spec_l00Src_pick 10 y10.2 h_y11)]
    rotate_left
    · show _ = _
      kernel_rfl
    · show _ = _
      kernel_rfl
    conv => lhs; whnf
    obtain ⟨hg31, h⟩ := grd_inv h
    rw [app_eq hg31 ?h1 ?h2]
    case h1 => first | exact rfl | (simp only [List.length_map, List.length_cons, List.length_nil]; done) | (rw [List.length_map]; rfl)
    case h2 => exact rfl
    conv => lhs; whnf
    first | (rw [map_app_of (r := rI) (l := v5) (m := ([y11.1] : List Int)) ?hh]; case hh => exact rfl) | skip
    obtain ⟨hg32, h⟩ := grd_inv h
    rw [app_eq hg32 ?h1 ?h2]
    case h1 => first | exact rfl | (simp only [List.length_map, List.length_cons, List.length_nil]; done) | (rw [List.length_map]; rfl)
    case h2 => exact rfl
    conv => lhs; whnf
    first | (rw [map_app_of (r := rB) (l := v6) (m := ([y10.1] : List Bool)) ?hh]; case hh => exact rfl) | skip
    cases hb12 : y10.1
    · replace h := ifF h (booF hb12)
      try rw [hb12] at h
      conv => lhs; whnf
      obtain ⟨y13, h_y13, h⟩ := callK_inv h
      rw [cl_eq hcl (L_spec_l00Src_pick 3 y11.2 h_y13)]
      rotate_left
      · show _ = _
        kernel_rfl
      · show _ = _
        kernel_rfl
      conv => lhs; whnf
      obtain ⟨hg33, h⟩ := grd_inv h
      rw [app_eq hg33 ?h1 ?h2]
      case h1 => first | exact rfl | (simp only [List.length_map, List.length_cons, List.length_nil]; done) | (rw [List.length_map]; rfl)
      case h2 => exact rfl
      conv => lhs; whnf
      first | (rw [map_app_of (r := rI) (l := v7) (m := ([y13.1] : List Int)) ?hh]; case hh => exact rfl) | skip
      exact hnx8 _ _ _ _ (fun kk => by kernel_rfl) h
    · replace h := ifT h hb12
      try rw [hb12] at h
      conv => lhs; whnf
      obtain ⟨hg34, h⟩ := grd_inv h
      rw [app_eq hg34 ?h1 ?h2]
      case h1 => first | exact rfl | (simp only [List.length_map, List.length_cons, List.length_nil]; done) | (rw [List.length_map]; rfl)
      case h2 => exact rfl
      conv => lhs; whnf
      first | (rw [map_app_of (r := rI) (l := v7) (m := ([0] : List Int)) ?hh]; case hh => exact rfl) | skip
      exact hnx8 _ _ _ _ (fun kk => by kernel_rfl) h

noncomputable def p_spec_DrawLevelMove (a_0 : List Int) : Option Wear :=
  callK (p_spec_l00From a_0) fun y1 =>
  callK (p_spec_l12Draw y1) fun y2 =>
  some y2.1

set_option maxHeartbeats 4000000 in
theorem L_spec_DrawLevelMove (a_0 : List Int) {r : Wear} (h : p_spec_DrawLevelMove a_0 = some r) : callL E 55 [.d (.arr (a_0.map rU))] ([] : Fo) = some (.agg [.d (.arr (r.Erases.map rI)), .d (.arr (r.Bad.map rB)), .d (.arr (r.Content.map rI)), IN r.Bound], ([] : Fo)) := by
  unfold p_spec_DrawLevelMove at h
  refine callW (fu := Try.f55) rfl rfl rfl NN ?_
  intro lp cl hlp hcl
  conv => lhs; whnf
  obtain ⟨y1, h_y1, h⟩ := callK_inv h
  rw [cl_eq hcl (L_spec_l00From a_0 h_y1)]
  rotate_left
  · show _ = _
    kernel_rfl
  · show _ = _
    kernel_rfl
  conv => lhs; whnf
  obtain ⟨y2, h_y2, h⟩ := callK_inv h
  rw [cl_eq hcl (L_spec_l12Draw y1 h_y2)]
  rotate_left
  · show _ = _
    kernel_rfl
  · show _ = _
    kernel_rfl
  conv => lhs; whnf
  obtain rfl := Option.some.inj h
  show _ = _
  kernel_rfl

noncomputable def p_impl_ValidWear (a_0 : Wear) : Option Bool :=
  if (inR (a_0.Erases.length : Int) 1 36) = true then
    if ¬ (a_0.Bad.length : Int) = (a_0.Erases.length : Int) then
      some false
    else
      if ¬ (a_0.Content.length : Int) = (a_0.Erases.length : Int) then
        some false
      else
        if (inR a_0.Bound 1 100) = true then
          grd (a_0.Content.length < 4611686018427387904) <|
          forK a_0.Content (fun (i14 : Nat) x16 (_ : Unit) (nx15 : Unit → Option _) =>
            getK a_0.Erases (i14 : Int) fun x17 =>
            if (inR x17 0 1000) = true then
              if (inR x16 0 2) = true then
                getK a_0.Bad (i14 : Int) fun x20 =>
                if x20 = true then
                  if ¬ x16 = 0 then
                    some false
                  else
                    nx15 ()
                else
                  nx15 ()
              else
                some false
            else
              some false) () (fun (_ : Unit) =>
            some true)
        else
          some false
  else
    some false

set_option maxHeartbeats 4000000 in
theorem L_impl_ValidWear (a_0 : Wear) {r : Bool} (h : p_impl_ValidWear a_0 = some r) : callL E 58 [.agg [.d (.arr (a_0.Erases.map rI)), .d (.arr (a_0.Bad.map rB)), .d (.arr (a_0.Content.map rI)), IN a_0.Bound]] ([] : Fo) = some (BO r, ([] : Fo)) := by
  unfold p_impl_ValidWear at h
  refine callW (fu := Try.f58) rfl rfl rfl NN ?_
  intro lp cl hlp hcl
  conv => lhs; whnf
  try rw [len_of (l := a_0.Erases) (r := rI)]
  rw [cl_eq hcl (L_impl_within (a_0.Erases.length : Int) 1 36 (pl_within (a_0.Erases.length : Int) 1 36))]
  rotate_left
  · show _ = _
    kernel_rfl
  · show _ = _
    kernel_rfl
  conv => lhs; whnf
  cases hb1 : (inR (a_0.Erases.length : Int) 1 36)
  · replace h := ifF h (booF hb1)
    conv => lhs; whnf
    try (rw [hb1]; conv => lhs; whnf)
    try (rw [hb1]; conv => lhs; whnf)
    try (rw [hb1]; conv => lhs; whnf)
    try (rw [hb1]; conv => lhs; whnf)
    try (rw [hb1]; conv => lhs; whnf)
    obtain rfl := Option.some.inj h
    show _ = _
    kernel_rfl
  · replace h := ifT h hb1
    conv => lhs; whnf
    try (rw [hb1]; conv => lhs; whnf)
    try (rw [hb1]; conv => lhs; whnf)
    try rw [len_of (l := a_0.Bad) (r := rB)]
    try (rw [hb1]; conv => lhs; whnf)
    try (rw [hb1]; conv => lhs; whnf)
    try (rw [hb1]; conv => lhs; whnf)
    cases hb2 : ((a_0.Bad.length : Int) != (a_0.Erases.length : Int))
    · replace h := ifF h ((fun h => not_not_intro (bneF h)) hb2)
      conv => lhs; whnf
      try (rw [hb2]; conv => lhs; whnf)
      try (rw [hb2]; conv => lhs; whnf)
      try rw [len_of (l := a_0.Content) (r := rI)]
      try (rw [hb2]; conv => lhs; whnf)
      try (rw [hb2]; conv => lhs; whnf)
      try (rw [hb2]; conv => lhs; whnf)
      cases hb3 : ((a_0.Content.length : Int) != (a_0.Erases.length : Int))
      · replace h := ifF h ((fun h => not_not_intro (bneF h)) hb3)
        conv => lhs; whnf
        try (rw [hb3]; conv => lhs; whnf)
        try (rw [hb3]; conv => lhs; whnf)
        rw [cl_eq hcl (L_impl_within a_0.Bound 1 100 (pl_within a_0.Bound 1 100))]
        rotate_left
        · show _ = _
          kernel_rfl
        · show _ = _
          kernel_rfl
        conv => lhs; whnf
        try (rw [hb3]; conv => lhs; whnf)
        try (rw [hb3]; conv => lhs; whnf)
        cases hb4 : (inR a_0.Bound 1 100)
        · replace h := ifF h (booF hb4)
          conv => lhs; whnf
          obtain rfl := Option.some.inj h
          show _ = _
          kernel_rfl
        · replace h := ifT h hb4
          conv => lhs; whnf
          try rw [len_of (l := a_0.Content) (r := rI)]
          obtain ⟨hl_i14, h⟩ := grd_inv h
          refine loop_for hlp (l := a_0.Content) hl_i14 (fun (i14 : Nat) (_ : Unit) => ([.dead, .bp 0 0, .dead, .dead, .dead, .dead, .dead, .dead, .dead, .dead, .dead, .dead, .dead, .dead, .dead, .dead, .dead, .dead, .dead, .dead, .dead, .dead, .dead, .dead, .dead, .dead, .dead, .dead, .dead, .dead, .dead, .dead, .dead, .d (.arr (a_0.Content.map rI)), IN (a_0.Content.length : Int), IN (i14 : Int)] ++ List.replicate 28 .dead : List V)) (fun (i14 : Nat) (_ : Unit) => ([some (.box [.d (.arr (a_0.Erases.map rI)), .d (.arr (a_0.Bad.map rB)), .d (.arr (a_0.Content.map rI)), IN a_0.Bound])] : Fo)) (fun (r : Bool) => ((BO r : V), ([] : Fo))) ?_ ?_ () _ (fun kk => by kernel_rfl) h
          · clear h
            rintro next_nx15 nx15 i14 hi_i14 hnx15 ⟨⟩ r h
            try dsimp only at h
            have hn_i14 : i14 < 4611686018427387904 := by omega
            have hx_x16 := get_map rI a_0.Content i14 hi_i14
            generalize a_0.Content[i14] = x16 at h hx_x16
            have hd_i14 : (decide ((i14 : Int) < (a_0.Content.length : Int))) = true := decide_eq_true (by omega)
            conv => lhs; whnf
            rw [hd_i14]
            conv => lhs; whnf
            try (rw [decide_eq_true hq_x16]; conv => lhs; whnf)
            rw [hx_x16]
            conv => lhs; whnf
            rw [hx_x16]
            conv => lhs; whnf
            obtain ⟨x17, hq_x17, hx_x17', h⟩ := getK_inv h
            have hx_x17 := get_of (r := rI) hx_x17'
            try (rw [decide_eq_true hq_x17]; conv => lhs; whnf)
            rw [hx_x17]
            conv => lhs; whnf
            rw [hx_x17]
            conv => lhs; whnf
            rw [cl_eq hcl (L_impl_within x17 0 1000 (pl_within x17 0 1000))]
            rotate_left
            · show _ = _
              kernel_rfl
            · show _ = _
              kernel_rfl
            conv => lhs; whnf
            cases hb18 : (inR x17 0 1000)
            · replace h := ifF h (booF hb18)
              conv => lhs; whnf
              try (rw [hb18]; conv => lhs; whnf)
              try (rw [hb18]; conv => lhs; whnf)
              try (rw [hb18]; conv => lhs; whnf)
              obtain rfl := Option.some.inj h
              show _ = _
              kernel_rfl
            · replace h := ifT h hb18
              conv => lhs; whnf
              try (rw [hb18]; conv => lhs; whnf)
              rw [cl_eq hcl (L_impl_within x16 0 2 (pl_within x16 0 2))]
              rotate_left
              · show _ = _
                kernel_rfl
              · show _ = _
                kernel_rfl
              conv => lhs; whnf
              try (rw [hb18]; conv => lhs; whnf)
              try (rw [hb18]; conv => lhs; whnf)
              cases hb19 : (inR x16 0 2)
              · replace h := ifF h (booF hb19)
                conv => lhs; whnf
                try (rw [hb19]; conv => lhs; whnf)
                try (rw [hb19]; conv => lhs; whnf)
                try (rw [hb19]; conv => lhs; whnf)
                try (rw [hb19]; conv => lhs; whnf)
                try (rw [hb19]; conv => lhs; whnf)
                try (rw [hb19]; conv => lhs; whnf)
                try (rw [hb19]; conv => lhs; whnf)
                obtain rfl := Option.some.inj h
                show _ = _
                kernel_rfl
              · replace h := ifT h hb19
                conv => lhs; whnf
                try (rw [hb19]; conv => lhs; whnf)
                try (rw [hb19]; conv => lhs; whnf)
                try (rw [hb19]; conv => lhs; whnf)
                obtain ⟨x20, hq_x20, hx_x20', h⟩ := getK_inv h
                have hx_x20 := get_of (r := rB) hx_x20'
                try (rw [decide_eq_true hq_x20]; conv => lhs; whnf)
                rw [hx_x20]
                conv => lhs; whnf
                try (rw [hb19]; conv => lhs; whnf)
                rw [hx_x20]
                conv => lhs; whnf
                try (rw [hb19]; conv => lhs; whnf)
                cases hb21 : x20
                · replace h := ifF h (booF hb21)
                  conv => lhs; whnf
                  try (rw [hb21]; conv => lhs; whnf)
                  try (rw [hb19]; conv => lhs; whnf)
                  try (rw [hb21]; conv => lhs; whnf)
                  try (rw [hb19]; conv => lhs; whnf)
                  rw [wrap_nat i14 (by have := hn_i14; omega)]
                  exact hnx15 _ _ _ _ (fun kk => by kernel_rfl) h
                · replace h := ifT h hb21
                  conv => lhs; whnf
                  try (rw [hb21]; conv => lhs; whnf)
                  try (rw [hb19]; conv => lhs; whnf)
                  try (rw [hb21]; conv => lhs; whnf)
                  try (rw [hb19]; conv => lhs; whnf)
                  cases hb22 : (x16 != 0)
                  · replace h := ifF h ((fun h => not_not_intro (bneF h)) hb22)
                    conv => lhs; whnf
                    rw [wrap_nat i14 (by have := hn_i14; omega)]
                    exact hnx15 _ _ _ _ (fun kk => by kernel_rfl) h
                  · replace h := ifT h (bneT hb22)
                    conv => lhs; whnf
                    obtain rfl := Option.some.inj h
                    show _ = _
                    kernel_rfl
          · clear h
            rintro next_nx15 ⟨⟩ r h
            try dsimp only at h
            have hd_i14 : (decide ((a_0.Content.length : Int) < (a_0.Content.length : Int))) = false := decide_eq_false (by omega)
            conv => lhs; whnf
            rw [hd_i14]
            conv => lhs; whnf
            obtain rfl := Option.some.inj h
            show _ = _
            kernel_rfl
      · replace h := ifT h (bneT hb3)
        conv => lhs; whnf
        try (rw [hb3]; conv => lhs; whnf)
        try (rw [hb3]; conv => lhs; whnf)
        try (rw [hb3]; conv => lhs; whnf)
        try (rw [hb3]; conv => lhs; whnf)
        obtain rfl := Option.some.inj h
        show _ = _
        kernel_rfl
    · replace h := ifT h (bneT hb2)
      conv => lhs; whnf
      try (rw [hb2]; conv => lhs; whnf)
      try (rw [hb2]; conv => lhs; whnf)
      try (rw [hb2]; conv => lhs; whnf)
      try (rw [hb2]; conv => lhs; whnf)
      try (rw [hb2]; conv => lhs; whnf)
      obtain rfl := Option.some.inj h
      show _ = _
      kernel_rfl

noncomputable def p_impl_good (a_0 : List Int) (a_1 : List Bool) : Option (List Int) :=
  grd ((a_0.length : Int) < 4611686018427387904) <|
  forI (a_0.length : Int) (fun (i7 : Nat) (v8 : List Int) (nx9 : (List Int) → Option _) =>
    if (i7 : Int) ≥ (a_1.length : Int) then
      grd (appOk (v8.length + 1) 8 = true) <|
      nx9 (v8 ++ ([(i7 : Int)] : List Int))
    else
      getK a_1 (i7 : Int) fun x11 =>
      if x11 = true then
        nx9 v8
      else
        grd (appOk (v8.length + 1) 8 = true) <|
        nx9 (v8 ++ ([(i7 : Int)] : List Int))) ([] : List Int) (fun (v8 : List Int) =>
    some v8)

set_option maxHeartbeats 4000000 in
theorem L_impl_good (a_0 : List Int) (a_1 : List Bool) {r : (List Int)} (h : p_impl_good a_0 a_1 = some r) : callL E 154 [.d (.arr (a_0.map rI)), .d (.arr (a_1.map rB))] ([] : Fo) = some (.sl 0, ([some (.arr 2 1 (r.map rI))] : Fo)) := by
  unfold p_impl_good at h
  refine callW (fu := Try.f154) rfl rfl rfl NN ?_
  intro lp cl hlp hcl
  conv => lhs; whnf
  try rw [len_of (l := a_0) (r := rI)]
  obtain ⟨hl_i7, h⟩ := grd_inv h
  refine loop_forI hlp (n := (a_0.length : Int)) hl_i7 (fun (i7 : Nat) (v8 : List Int) => ([.dead, .d (.arr (a_1.map rB)), .dead, .dead, .dead, .sl 0, .dead, .dead, IN (a_0.length : Int), IN (i7 : Int)] ++ List.replicate 19 .dead : List V)) (fun (i7 : Nat) (v8 : List Int) => ([some (.arr 2 1 (v8.map rI))] : Fo)) (fun (r : (List Int)) => ((.sl 0 : V), ([some (.arr 2 1 (r.map rI))] : Fo))) ?_ ?_ ([] : List Int) _ (fun kk => by kernel_rfl) h
  · clear h
    rintro next_nx9 nx9 i7 hi_i7 hnx9 v8 r h
    try dsimp only at h
    have hn_i7 : i7 < 4611686018427387904 := by omega
    have hd_i7 : (decide ((i7 : Int) < (a_0.length : Int))) = true := decide_eq_true (by omega)
    conv => lhs; whnf
    rw [hd_i7]
    conv => lhs; whnf
    try rw [len_of (l := a_1) (r := rB)]
    cases hb10 : (decide ((i7 : Int) ≥ (a_1.length : Int)))
    · replace h := ifF h (decF hb10)
      conv => lhs; whnf
      try (rw [hb10]; conv => lhs; whnf)
      try (rw [hb10]; conv => lhs; whnf)
      obtain ⟨x11, hq_x11, hx_x11', h⟩ := getK_inv h
      have hx_x11 := get_of (r := rB) hx_x11'
      try (rw [decide_eq_true hq_x11]; conv => lhs; whnf)
      rw [hx_x11]
      conv => lhs; whnf
      try (rw [hb10]; conv => lhs; whnf)
      rw [hx_x11]
      conv => lhs; whnf
      try (rw [hb10]; conv => lhs; whnf)
      try (rw [hb10]; conv => lhs; whnf)
      cases hb12 : x11
      · replace h := ifF h (booF hb12)
        conv => lhs; whnf
        obtain ⟨hg13, h⟩ := grd_inv h
        rw [app_eq hg13 ?h1 ?h2]
        case h1 => first | exact rfl | (simp only [List.length_map, List.length_cons, List.length_nil]; done) | (rw [List.length_map]; rfl)
        case h2 => exact rfl
        conv => lhs; whnf
        first | (rw [map_app_of (r := rI) (l := v8) (m := ([(i7 : Int)] : List Int)) ?hh]; case hh => exact rfl) | skip
        rw [wrap_nat i7 (by have := hn_i7; omega)]
        exact hnx9 _ _ _ _ (fun kk => by kernel_rfl) h
      · replace h := ifT h hb12
        conv => lhs; whnf
        rw [wrap_nat i7 (by have := hn_i7; omega)]
        exact hnx9 _ _ _ _ (fun kk => by kernel_rfl) h
    · replace h := ifT h (decT hb10)
      conv => lhs; whnf
      try (rw [hb10]; conv => lhs; whnf)
      try (rw [hb10]; conv => lhs; whnf)
      try (rw [hb10]; conv => lhs; whnf)
      try (rw [hb10]; conv => lhs; whnf)
      try (rw [hb10]; conv => lhs; whnf)
      obtain ⟨hg14, h⟩ := grd_inv h
      rw [app_eq hg14 ?h1 ?h2]
      case h1 => first | exact rfl | (simp only [List.length_map, List.length_cons, List.length_nil]; done) | (rw [List.length_map]; rfl)
      case h2 => exact rfl
      conv => lhs; whnf
      first | (rw [map_app_of (r := rI) (l := v8) (m := ([(i7 : Int)] : List Int)) ?hh]; case hh => exact rfl) | skip
      rw [wrap_nat i7 (by have := hn_i7; omega)]
      exact hnx9 _ _ _ _ (fun kk => by kernel_rfl) h
  · clear h
    rintro next_nx9 v8 r h
    try dsimp only at h
    have hd_i7 : (decide (((Int.toNat (a_0.length : Int)) : Int) < (a_0.length : Int))) = false := decide_eq_false (by omega)
    conv => lhs; whnf
    rw [hd_i7]
    conv => lhs; whnf
    obtain rfl := Option.some.inj h
    show _ = _
    kernel_rfl

noncomputable def p_impl_allWithin_c1 (a_0 : Int) (a_1 : Int) (a_2 : Int) : Option Bool :=
  some (!(inR a_0 a_1 a_2))

set_option maxHeartbeats 4000000 in
theorem L_impl_allWithin_c1 (a_0 : Int) (a_1 : Int) (a_2 : Int) {r : Bool} (h : p_impl_allWithin_c1 a_0 a_1 a_2 = some r) : callL E 227 [IN a_0, .bp 0 0, .bp 1 0] ([some (.box [IN a_1]), some (.box [IN a_2])] : Fo) = some (BO r, ([some (.box [IN a_1]), some (.box [IN a_2])] : Fo)) := by
  unfold p_impl_allWithin_c1 at h
  refine callW (fu := Try.f227) rfl rfl rfl NN ?_
  intro lp cl hlp hcl
  conv => lhs; whnf
  rw [cl_eq hcl (L_impl_within a_0 a_1 a_2 (pl_within a_0 a_1 a_2))]
  rotate_left
  · show _ = _
    kernel_rfl
  · show _ = _
    kernel_rfl
  conv => lhs; whnf
  obtain rfl := Option.some.inj h
  show _ = _
  kernel_rfl

noncomputable def p_slices_IndexFunc_impl_allWithin_c1 (a_0 : List Int) (a_1 : Int) (a_2 : Int) : Option Int :=
  grd (a_0.length < 4611686018427387904) <|
  forK a_0 (fun (i6 : Nat) x8 (_ : Unit) (nx7 : Unit → Option _) =>
    callK (p_impl_allWithin_c1 x8 a_1 a_2) fun y9 =>
    if y9 = true then
      some (i6 : Int)
    else
      nx7 ()) () (fun (_ : Unit) =>
    some (-1))

set_option maxHeartbeats 4000000 in
theorem L_slices_IndexFunc_impl_allWithin_c1 (a_0 : List Int) (a_1 : Int) (a_2 : Int) {r : Int} (h : p_slices_IndexFunc_impl_allWithin_c1 a_0 a_1 a_2 = some r) : callL E 210 [.d (.arr (a_0.map rI)), .clo 227 [.bp 0 0, .bp 1 0]] ([some (.box [IN a_1]), some (.box [IN a_2])] : Fo) = some (IN r, ([some (.box [IN a_1]), some (.box [IN a_2])] : Fo)) := by
  unfold p_slices_IndexFunc_impl_allWithin_c1 at h
  refine callW (fu := Try.f210) rfl rfl rfl NN ?_
  intro lp cl hlp hcl
  conv => lhs; whnf
  try rw [len_of (l := a_0) (r := rI)]
  obtain ⟨hl_i6, h⟩ := grd_inv h
  refine loop_for hlp (l := a_0) hl_i6 (fun (i6 : Nat) (_ : Unit) => ([.d (.arr (a_0.map rI)), .clo 227 [.bp 0 0, .bp 1 0], .dead, .dead, .dead, .dead, .dead, IN (a_0.length : Int), IN (i6 : Int)] ++ List.replicate 10 .dead : List V)) (fun (i6 : Nat) (_ : Unit) => ([some (.box [IN a_1]), some (.box [IN a_2])] : Fo)) (fun (r : Int) => ((IN r : V), ([some (.box [IN a_1]), some (.box [IN a_2])] : Fo))) ?_ ?_ () _ (fun kk => by kernel_rfl) h
  · clear h
    rintro next_nx7 nx7 i6 hi_i6 hnx7 ⟨⟩ r h
    try dsimp only at h
    have hn_i6 : i6 < 4611686018427387904 := by omega
    have hx_x8 := get_map rI a_0 i6 hi_i6
    generalize a_0[i6] = x8 at h hx_x8
    have hd_i6 : (decide ((i6 : Int) < (a_0.length : Int))) = true := decide_eq_true (by omega)
    conv => lhs; whnf
    rw [hd_i6]
    conv => lhs; whnf
    try (rw [decide_eq_true hq_x8]; conv => lhs; whnf)
    rw [hx_x8]
    conv => lhs; whnf
    rw [hx_x8]
    conv => lhs; whnf
    obtain ⟨y9, h_y9, h⟩ := callK_inv h
    rw [cl_eq hcl (L_impl_allWithin_c1 x8 a_1 a_2 h_y9)]
    rotate_left
    · show _ = _
      kernel_rfl
    · show _ = _
      kernel_rfl
    conv => lhs; whnf
    cases hb10 : y9
    · replace h := ifF h (booF hb10)
      conv => lhs; whnf
      rw [wrap_nat i6 (by have := hn_i6; omega)]
      exact hnx7 _ _ _ _ (fun kk => by kernel_rfl) h
    · replace h := ifT h hb10
      conv => lhs; whnf
      obtain rfl := Option.some.inj h
      show _ = _
      kernel_rfl
  · clear h
    rintro next_nx7 ⟨⟩ r h
    try dsimp only at h
    have hd_i6 : (decide ((a_0.length : Int) < (a_0.length : Int))) = false := decide_eq_false (by omega)
    conv => lhs; whnf
    rw [hd_i6]
    conv => lhs; whnf
    obtain rfl := Option.some.inj h
    show _ = _
    kernel_rfl

noncomputable def p_slices_ContainsFunc_impl_allWithin_c1 (a_0 : List Int) (a_1 : Int) (a_2 : Int) : Option Bool :=
  callK (p_slices_IndexFunc_impl_allWithin_c1 a_0 a_1 a_2) fun y1 =>
  some (decide (y1 ≥ 0))

set_option maxHeartbeats 4000000 in
theorem L_slices_ContainsFunc_impl_allWithin_c1 (a_0 : List Int) (a_1 : Int) (a_2 : Int) {r : Bool} (h : p_slices_ContainsFunc_impl_allWithin_c1 a_0 a_1 a_2 = some r) : callL E 108 [.d (.arr (a_0.map rI)), .clo 227 [.bp 0 0, .bp 1 0]] ([some (.box [IN a_1]), some (.box [IN a_2])] : Fo) = some (BO r, ([some (.box [IN a_1]), some (.box [IN a_2])] : Fo)) := by
  unfold p_slices_ContainsFunc_impl_allWithin_c1 at h
  refine callW (fu := Try.f108) rfl rfl rfl NN ?_
  intro lp cl hlp hcl
  conv => lhs; whnf
  obtain ⟨y1, h_y1, h⟩ := callK_inv h
  rw [cl_eq hcl (L_slices_IndexFunc_impl_allWithin_c1 a_0 a_1 a_2 h_y1)]
  rotate_left
  · show _ = _
    kernel_rfl
  · show _ = _
    kernel_rfl
  conv => lhs; whnf
  obtain rfl := Option.some.inj h
  show _ = _
  kernel_rfl

noncomputable def p_impl_allWithin (a_0 : List Int) (a_1 : Int) (a_2 : Int) : Option Bool :=
  callK (p_slices_ContainsFunc_impl_allWithin_c1 a_0 a_1 a_2) fun y1 =>
  some (!y1)

set_option maxHeartbeats 4000000 in
theorem L_impl_allWithin (a_0 : List Int) (a_1 : Int) (a_2 : Int) {r : Bool} (h : p_impl_allWithin a_0 a_1 a_2 = some r) : callL E 149 [.d (.arr (a_0.map rI)), IN a_1, IN a_2] ([] : Fo) = some (BO r, ([] : Fo)) := by
  unfold p_impl_allWithin at h
  refine callW (fu := Try.f149) rfl rfl rfl NN ?_
  intro lp cl hlp hcl
  conv => lhs; whnf
  obtain ⟨y1, h_y1, h⟩ := callK_inv h
  rw [cl_eq hcl (L_slices_ContainsFunc_impl_allWithin_c1 a_0 a_1 a_2 h_y1)]
  rotate_left
  · show _ = _
    kernel_rfl
  · show _ = _
    kernel_rfl
  conv => lhs; whnf
  obtain rfl := Option.some.inj h
  show _ = _
  kernel_rfl

noncomputable def p_impl_moreThan (a_0 : Int) (a_1 : Int) : Option Bool :=
  some (decide (a_0 > a_1))

set_option maxHeartbeats 4000000 in
theorem L_impl_moreThan (a_0 : Int) (a_1 : Int) {r : Bool} (h : p_impl_moreThan a_0 a_1 = some r) : callL E 152 [IN a_0, IN a_1] ([] : Fo) = some (BO r, ([] : Fo)) := by
  unfold p_impl_moreThan at h
  refine callW (fu := Try.f152) rfl rfl rfl NN ?_
  intro lp cl hlp hcl
  conv => lhs; whnf
  obtain rfl := Option.some.inj h
  show _ = _
  kernel_rfl

noncomputable def p_impl_bestOf_impl_moreThan (a_0 : List Int) (a_1 : List Int) : Option Int :=
  grd (a_1.length < 4611686018427387904) <|
  forK a_1 (fun (i12 : Nat) x15 (v13 : Int) (nx14 : Int → Option _) =>
    if v13 < 0 then
      nx14 x15
    else
      getK a_0 x15 fun x17 =>
      getK a_0 v13 fun x18 =>
      callK (p_impl_moreThan x17 x18) fun y19 =>
      if y19 = true then
        nx14 x15
      else
        if x17 = x18 then
          if x15 < v13 then
            nx14 x15
          else
            nx14 v13
        else
          nx14 v13) (-1) (fun (v13 : Int) =>
    some v13)

set_option maxHeartbeats 4000000 in
theorem L_impl_bestOf_impl_moreThan (a_0 : List Int) (a_1 : List Int) {r : Int} (h : p_impl_bestOf_impl_moreThan a_0 a_1 = some r) : callL E 150 [.d (.arr (a_0.map rI)), .sl 0, .clo 152 []] ([some (.arr 2 1 (a_1.map rI))] : Fo) = some (IN r, ([some (.arr 2 1 (a_1.map rI))] : Fo)) := by
  unfold p_impl_bestOf_impl_moreThan at h
  refine callW (fu := Try.f150) rfl rfl rfl NN ?_
  intro lp cl hlp hcl
  conv => lhs; whnf
  try rw [len_of (l := a_1) (r := rI)]
  obtain ⟨hl_i12, h⟩ := grd_inv h
  refine loop_for hlp (l := a_1) hl_i12 (fun (i12 : Nat) (v13 : Int) => ([.d (.arr (a_0.map rI)), .dead, .clo 152 [], .dead, .dead, .dead, .dead, IN v13, .dead, .dead, .sl 0, IN (a_1.length : Int), IN (i12 : Int)] ++ List.replicate 36 .dead : List V)) (fun (i12 : Nat) (v13 : Int) => ([some (.arr 2 1 (a_1.map rI))] : Fo)) (fun (r : Int) => ((IN r : V), ([some (.arr 2 1 (a_1.map rI))] : Fo))) ?_ ?_ (-1) _ (fun kk => by kernel_rfl) h
  · clear h
    rintro next_nx14 nx14 i12 hi_i12 hnx14 v13 r h
    try dsimp only at h
    have hn_i12 : i12 < 4611686018427387904 := by omega
    have hx_x15 := get_map rI a_1 i12 hi_i12
    generalize a_1[i12] = x15 at h hx_x15
    have hd_i12 : (decide ((i12 : Int) < (a_1.length : Int))) = true := decide_eq_true (by omega)
    conv => lhs; whnf
    rw [hd_i12]
    conv => lhs; whnf
    try (rw [decide_eq_true hq_x15]; conv => lhs; whnf)
    rw [hx_x15]
    conv => lhs; whnf
    rw [hx_x15]
    conv => lhs; whnf
    cases hb16 : (decide (v13 < 0))
    · replace h := ifF h (decF hb16)
      conv => lhs; whnf
      try (rw [hb16]; conv => lhs; whnf)
      try (rw [hb16]; conv => lhs; whnf)
      try (rw [hb16]; conv => lhs; whnf)
      obtain ⟨x17, hq_x17, hx_x17', h⟩ := getK_inv h
      have hx_x17 := get_of (r := rI) hx_x17'
      try (rw [decide_eq_true hq_x17]; conv => lhs; whnf)
      rw [hx_x17]
      conv => lhs; whnf
      try (rw [hb16]; conv => lhs; whnf)
      rw [hx_x17]
      conv => lhs; whnf
      try (rw [hb16]; conv => lhs; whnf)
      try (rw [hb16]; conv => lhs; whnf)
      try (rw [hb16]; conv => lhs; whnf)
      obtain ⟨x18, hq_x18, hx_x18', h⟩ := getK_inv h
      have hx_x18 := get_of (r := rI) hx_x18'
      try (rw [decide_eq_true hq_x18]; conv => lhs; whnf)
      rw [hx_x18]
      conv => lhs; whnf
      try (rw [hb16]; conv => lhs; whnf)
      rw [hx_x18]
      conv => lhs; whnf
      try (rw [hb16]; conv => lhs; whnf)
      obtain ⟨y19, h_y19, h⟩ := callK_inv h
      rw [cl_eq hcl (L_impl_moreThan x17 x18 h_y19)]
      rotate_left
      · show _ = _
        kernel_rfl
      · show _ = _
        kernel_rfl
      conv => lhs; whnf
      try (rw [hb16]; conv => lhs; whnf)
      cases hb20 : y19
      · replace h := ifF h (booF hb20)
        conv => lhs; whnf
        try (rw [hb20]; conv => lhs; whnf)
        try (rw [hb20]; conv => lhs; whnf)
        try (rw [decide_eq_true hq_x17]; conv => lhs; whnf)
        rw [hx_x17]
        conv => lhs; whnf
        try (rw [hb20]; conv => lhs; whnf)
        rw [hx_x17]
        conv => lhs; whnf
        try (rw [hb20]; conv => lhs; whnf)
        try (rw [hb20]; conv => lhs; whnf)
        try (rw [hb20]; conv => lhs; whnf)
        try (rw [decide_eq_true hq_x18]; conv => lhs; whnf)
        rw [hx_x18]
        conv => lhs; whnf
        try (rw [hb20]; conv => lhs; whnf)
        rw [hx_x18]
        conv => lhs; whnf
        try (rw [hb20]; conv => lhs; whnf)
        try (rw [hb20]; conv => lhs; whnf)
        cases hb21 : (x17 == x18)
        · replace h := ifF h (beqF hb21)
          conv => lhs; whnf
          try (rw [hb21]; conv => lhs; whnf)
          try (rw [hb21]; conv => lhs; whnf)
          try (rw [hb20]; conv => lhs; whnf)
          try (rw [hb21]; conv => lhs; whnf)
          try (rw [hb20]; conv => lhs; whnf)
          rw [wrap_nat i12 (by have := hn_i12; omega)]
          exact hnx14 _ _ _ _ (fun kk => by kernel_rfl) h
        · replace h := ifT h (beqT hb21)
          conv => lhs; whnf
          try (rw [hb21]; conv => lhs; whnf)
          try (rw [hb21]; conv => lhs; whnf)
          try (rw [hb20]; conv => lhs; whnf)
          try (rw [hb21]; conv => lhs; whnf)
          try (rw [hb20]; conv => lhs; whnf)
          cases hb22 : (decide (x15 < v13))
          · replace h := ifF h (decF hb22)
            conv => lhs; whnf
            rw [wrap_nat i12 (by have := hn_i12; omega)]
            exact hnx14 _ _ _ _ (fun kk => by kernel_rfl) h
          · replace h := ifT h (decT hb22)
            conv => lhs; whnf
            rw [wrap_nat i12 (by have := hn_i12; omega)]
            exact hnx14 _ _ _ _ (fun kk => by kernel_rfl) h
      · replace h := ifT h hb20
        conv => lhs; whnf
        try (rw [hb20]; conv => lhs; whnf)
        try (rw [hb20]; conv => lhs; whnf)
        try (rw [hb20]; conv => lhs; whnf)
        try (rw [hb20]; conv => lhs; whnf)
        try (rw [hb20]; conv => lhs; whnf)
        try (rw [hb20]; conv => lhs; whnf)
        try (rw [hb20]; conv => lhs; whnf)
        try (rw [hb20]; conv => lhs; whnf)
        try (rw [hb20]; conv => lhs; whnf)
        try (rw [hb20]; conv => lhs; whnf)
        try (rw [hb20]; conv => lhs; whnf)
        rw [wrap_nat i12 (by have := hn_i12; omega)]
        exact hnx14 _ _ _ _ (fun kk => by kernel_rfl) h
    · replace h := ifT h (decT hb16)
      conv => lhs; whnf
      try (rw [hb16]; conv => lhs; whnf)
      try (rw [hb16]; conv => lhs; whnf)
      try (rw [hb16]; conv => lhs; whnf)
      try (rw [hb16]; conv => lhs; whnf)
      try (rw [hb16]; conv => lhs; whnf)
      try (rw [hb16]; conv => lhs; whnf)
      try (rw [hb16]; conv => lhs; whnf)
      try (rw [hb16]; conv => lhs; whnf)
      try (rw [hb16]; conv => lhs; whnf)
      try (rw [hb16]; conv => lhs; whnf)
      rw [wrap_nat i12 (by have := hn_i12; omega)]
      exact hnx14 _ _ _ _ (fun kk => by kernel_rfl) h
  · clear h
    rintro next_nx14 v13 r h
    try dsimp only at h
    have hd_i12 : (decide ((a_1.length : Int) < (a_1.length : Int))) = false := decide_eq_false (by omega)
    conv => lhs; whnf
    rw [hd_i12]
    conv => lhs; whnf
    obtain rfl := Option.some.inj h
    show _ = _
    kernel_rfl

noncomputable def p_impl_lessThan (a_0 : Int) (a_1 : Int) : Option Bool :=
  some (decide (a_0 < a_1))

set_option maxHeartbeats 4000000 in
theorem L_impl_lessThan (a_0 : Int) (a_1 : Int) {r : Bool} (h : p_impl_lessThan a_0 a_1 = some r) : callL E 151 [IN a_0, IN a_1] ([] : Fo) = some (BO r, ([] : Fo)) := by
  unfold p_impl_lessThan at h
  refine callW (fu := Try.f151) rfl rfl rfl NN ?_
  intro lp cl hlp hcl
  conv => lhs; whnf
  obtain rfl := Option.some.inj h
  show _ = _
  kernel_rfl

noncomputable def p_impl_bestOf_impl_lessThan (a_0 : List Int) (a_1 : List Int) : Option Int :=
  grd (a_1.length < 4611686018427387904) <|
  forK a_1 (fun (i12 : Nat) x15 (v13 : Int) (nx14 : Int → Option _) =>
    if v13 < 0 then
      nx14 x15
    else
      getK a_0 x15 fun x17 =>
      getK a_0 v13 fun x18 =>
      callK (p_impl_lessThan x17 x18) fun y19 =>
      if y19 = true then
        nx14 x15
      else
        if x17 = x18 then
          if x15 < v13 then
            nx14 x15
          else
            nx14 v13
        else
          nx14 v13) (-1) (fun (v13 : Int) =>
    some v13)

set_option maxHeartbeats 4000000 in
theorem L_impl_bestOf_impl_lessThan (a_0 : List Int) (a_1 : List Int) {r : Int} (h : p_impl_bestOf_impl_lessThan a_0 a_1 = some r) : callL E 150 [.d (.arr (a_0.map rI)), .sl 0, .clo 151 []] ([some (.arr 2 1 (a_1.map rI))] : Fo) = some (IN r, ([some (.arr 2 1 (a_1.map rI))] : Fo)) := by
  unfold p_impl_bestOf_impl_lessThan at h
  refine callW (fu := Try.f150) rfl rfl rfl NN ?_
  intro lp cl hlp hcl
  conv => lhs; whnf
  try rw [len_of (l := a_1) (r := rI)]
  obtain ⟨hl_i12, h⟩ := grd_inv h
  refine loop_for hlp (l := a_1) hl_i12 (fun (i12 : Nat) (v13 : Int) => ([.d (.arr (a_0.map rI)), .dead, .clo 151 [], .dead, .dead, .dead, .dead, IN v13, .dead, .dead, .sl 0, IN (a_1.length : Int), IN (i12 : Int)] ++ List.replicate 36 .dead : List V)) (fun (i12 : Nat) (v13 : Int) => ([some (.arr 2 1 (a_1.map rI))] : Fo)) (fun (r : Int) => ((IN r : V), ([some (.arr 2 1 (a_1.map rI))] : Fo))) ?_ ?_ (-1) _ (fun kk => by kernel_rfl) h
  · clear h
    rintro next_nx14 nx14 i12 hi_i12 hnx14 v13 r h
    try dsimp only at h
    have hn_i12 : i12 < 4611686018427387904 := by omega
    have hx_x15 := get_map rI a_1 i12 hi_i12
    generalize a_1[i12] = x15 at h hx_x15
    have hd_i12 : (decide ((i12 : Int) < (a_1.length : Int))) = true := decide_eq_true (by omega)
    conv => lhs; whnf
    rw [hd_i12]
    conv => lhs; whnf
    try (rw [decide_eq_true hq_x15]; conv => lhs; whnf)
    rw [hx_x15]
    conv => lhs; whnf
    rw [hx_x15]
    conv => lhs; whnf
    cases hb16 : (decide (v13 < 0))
    · replace h := ifF h (decF hb16)
      conv => lhs; whnf
      try (rw [hb16]; conv => lhs; whnf)
      try (rw [hb16]; conv => lhs; whnf)
      try (rw [hb16]; conv => lhs; whnf)
      obtain ⟨x17, hq_x17, hx_x17', h⟩ := getK_inv h
      have hx_x17 := get_of (r := rI) hx_x17'
      try (rw [decide_eq_true hq_x17]; conv => lhs; whnf)
      rw [hx_x17]
      conv => lhs; whnf
      try (rw [hb16]; conv => lhs; whnf)
      rw [hx_x17]
      conv => lhs; whnf
      try (rw [hb16]; conv => lhs; whnf)
      try (rw [hb16]; conv => lhs; whnf)
      try (rw [hb16]; conv => lhs; whnf)
      obtain ⟨x18, hq_x18, hx_x18', h⟩ := getK_inv h
      have hx_x18 := get_of (r := rI) hx_x18'
      try (rw [decide_eq_true hq_x18]; conv => lhs; whnf)
      rw [hx_x18]
      conv => lhs; whnf
      try (rw [hb16]; conv => lhs; whnf)
      rw [hx_x18]
      conv => lhs; whnf
      try (rw [hb16]; conv => lhs; whnf)
      obtain ⟨y19, h_y19, h⟩ := callK_inv h
      rw [cl_eq hcl (L_impl_lessThan x17 x18 h_y19)]
      rotate_left
      · show _ = _
        kernel_rfl
      · show _ = _
        kernel_rfl
      conv => lhs; whnf
      try (rw [hb16]; conv => lhs; whnf)
      cases hb20 : y19
      · replace h := ifF h (booF hb20)
        conv => lhs; whnf
        try (rw [hb20]; conv => lhs; whnf)
        try (rw [hb20]; conv => lhs; whnf)
        try (rw [decide_eq_true hq_x17]; conv => lhs; whnf)
        rw [hx_x17]
        conv => lhs; whnf
        try (rw [hb20]; conv => lhs; whnf)
        rw [hx_x17]
        conv => lhs; whnf
        try (rw [hb20]; conv => lhs; whnf)
        try (rw [hb20]; conv => lhs; whnf)
        try (rw [hb20]; conv => lhs; whnf)
        try (rw [decide_eq_true hq_x18]; conv => lhs; whnf)
        rw [hx_x18]
        conv => lhs; whnf
        try (rw [hb20]; conv => lhs; whnf)
        rw [hx_x18]
        conv => lhs; whnf
        try (rw [hb20]; conv => lhs; whnf)
        try (rw [hb20]; conv => lhs; whnf)
        cases hb21 : (x17 == x18)
        · replace h := ifF h (beqF hb21)
          conv => lhs; whnf
          try (rw [hb21]; conv => lhs; whnf)
          try (rw [hb21]; conv => lhs; whnf)
          try (rw [hb20]; conv => lhs; whnf)
          try (rw [hb21]; conv => lhs; whnf)
          try (rw [hb20]; conv => lhs; whnf)
          rw [wrap_nat i12 (by have := hn_i12; omega)]
          exact hnx14 _ _ _ _ (fun kk => by kernel_rfl) h
        · replace h := ifT h (beqT hb21)
          conv => lhs; whnf
          try (rw [hb21]; conv => lhs; whnf)
          try (rw [hb21]; conv => lhs; whnf)
          try (rw [hb20]; conv => lhs; whnf)
          try (rw [hb21]; conv => lhs; whnf)
          try (rw [hb20]; conv => lhs; whnf)
          cases hb22 : (decide (x15 < v13))
          · replace h := ifF h (decF hb22)
            conv => lhs; whnf
            rw [wrap_nat i12 (by have := hn_i12; omega)]
            exact hnx14 _ _ _ _ (fun kk => by kernel_rfl) h
          · replace h := ifT h (decT hb22)
            conv => lhs; whnf
            rw [wrap_nat i12 (by have := hn_i12; omega)]
            exact hnx14 _ _ _ _ (fun kk => by kernel_rfl) h
      · replace h := ifT h hb20
        conv => lhs; whnf
        try (rw [hb20]; conv => lhs; whnf)
        try (rw [hb20]; conv => lhs; whnf)
        try (rw [hb20]; conv => lhs; whnf)
        try (rw [hb20]; conv => lhs; whnf)
        try (rw [hb20]; conv => lhs; whnf)
        try (rw [hb20]; conv => lhs; whnf)
        try (rw [hb20]; conv => lhs; whnf)
        try (rw [hb20]; conv => lhs; whnf)
        try (rw [hb20]; conv => lhs; whnf)
        try (rw [hb20]; conv => lhs; whnf)
        try (rw [hb20]; conv => lhs; whnf)
        rw [wrap_nat i12 (by have := hn_i12; omega)]
        exact hnx14 _ _ _ _ (fun kk => by kernel_rfl) h
    · replace h := ifT h (decT hb16)
      conv => lhs; whnf
      try (rw [hb16]; conv => lhs; whnf)
      try (rw [hb16]; conv => lhs; whnf)
      try (rw [hb16]; conv => lhs; whnf)
      try (rw [hb16]; conv => lhs; whnf)
      try (rw [hb16]; conv => lhs; whnf)
      try (rw [hb16]; conv => lhs; whnf)
      try (rw [hb16]; conv => lhs; whnf)
      try (rw [hb16]; conv => lhs; whnf)
      try (rw [hb16]; conv => lhs; whnf)
      try (rw [hb16]; conv => lhs; whnf)
      rw [wrap_nat i12 (by have := hn_i12; omega)]
      exact hnx14 _ _ _ _ (fun kk => by kernel_rfl) h
  · clear h
    rintro next_nx14 v13 r h
    try dsimp only at h
    have hd_i12 : (decide ((a_1.length : Int) < (a_1.length : Int))) = false := decide_eq_false (by omega)
    conv => lhs; whnf
    rw [hd_i12]
    conv => lhs; whnf
    obtain rfl := Option.some.inj h
    show _ = _
    kernel_rfl

noncomputable def p_impl_WearGap (a_0 : List Int) (a_1 : List Bool) : Option Int :=
  callK (p_impl_good a_0 a_1) fun y1 =>
  if (y1.length : Int) = 0 then
    some 0
  else
    callK (p_impl_allWithin a_0 0 1000) fun y3 =>
    if y3 = true then
      callK (p_impl_bestOf_impl_moreThan a_0 y1) fun y5 =>
      getK a_0 y5 fun x6 =>
      callK (p_impl_bestOf_impl_lessThan a_0 y1) fun y7 =>
      getK a_0 y7 fun x8 =>
      some (IntKind.i64.wrap (x6 - x8))
    else
      some 0

set_option maxHeartbeats 4000000 in
theorem L_impl_WearGap (a_0 : List Int) (a_1 : List Bool) {r : Int} (h : p_impl_WearGap a_0 a_1 = some r) : callL E 163 [.d (.arr (a_0.map rI)), .d (.arr (a_1.map rB))] ([] : Fo) = some (IN r, ([] : Fo)) := by
  unfold p_impl_WearGap at h
  refine callW (fu := Try.f163) rfl rfl rfl NN ?_
  intro lp cl hlp hcl
  conv => lhs; whnf
  obtain ⟨y1, h_y1, h⟩ := callK_inv h
  rw [cl_eq hcl (L_impl_good a_0 a_1 h_y1)]
  rotate_left
  · show _ = _
    kernel_rfl
  · show _ = _
    kernel_rfl
  conv => lhs; whnf
  try rw [len_of (l := y1) (r := rI)]
  cases hb2 : ((y1.length : Int) == 0)
  · replace h := ifF h (beqF hb2)
    conv => lhs; whnf
    try (rw [hb2]; conv => lhs; whnf)
    obtain ⟨y3, h_y3, h⟩ := callK_inv h
    rw [cl_eq hcl (L_impl_allWithin a_0 0 1000 h_y3)]
    rotate_left
    · show _ = _
      kernel_rfl
    · show _ = _
      kernel_rfl
    conv => lhs; whnf
    try (rw [hb2]; conv => lhs; whnf)
    try (rw [hb2]; conv => lhs; whnf)
    cases hb4 : y3
    · replace h := ifF h (booF hb4)
      conv => lhs; whnf
      obtain rfl := Option.some.inj h
      show _ = _
      kernel_rfl
    · replace h := ifT h hb4
      conv => lhs; whnf
      obtain ⟨y5, h_y5, h⟩ := callK_inv h
      rw [cl_eq hcl (L_impl_bestOf_impl_moreThan a_0 y1 h_y5)]
      rotate_left
      · show _ = _
        kernel_rfl
      · show _ = _
        kernel_rfl
      conv => lhs; whnf
      obtain ⟨x6, hq_x6, hx_x6', h⟩ := getK_inv h
      have hx_x6 := get_of (r := rI) hx_x6'
      try (rw [decide_eq_true hq_x6]; conv => lhs; whnf)
      rw [hx_x6]
      conv => lhs; whnf
      rw [hx_x6]
      conv => lhs; whnf
      obtain ⟨y7, h_y7, h⟩ := callK_inv h
      rw [cl_eq hcl (L_impl_bestOf_impl_lessThan a_0 y1 h_y7)]
      rotate_left
      · show _ = _
        kernel_rfl
      · show _ = _
        kernel_rfl
      conv => lhs; whnf
      obtain ⟨x8, hq_x8, hx_x8', h⟩ := getK_inv h
      have hx_x8 := get_of (r := rI) hx_x8'
      try (rw [decide_eq_true hq_x8]; conv => lhs; whnf)
      rw [hx_x8]
      conv => lhs; whnf
      rw [hx_x8]
      conv => lhs; whnf
      obtain rfl := Option.some.inj h
      show _ = _
      kernel_rfl
  · replace h := ifT h (beqT hb2)
    conv => lhs; whnf
    try (rw [hb2]; conv => lhs; whnf)
    try (rw [hb2]; conv => lhs; whnf)
    try (rw [hb2]; conv => lhs; whnf)
    obtain rfl := Option.some.inj h
    show _ = _
    kernel_rfl

noncomputable def p_impl_NeedsLevelling (a_0 : List Int) (a_1 : List Bool) (a_2 : Int) : Option Bool :=
  callK (p_impl_WearGap a_0 a_1) fun y1 =>
  some (decide (y1 > a_2))

set_option maxHeartbeats 4000000 in
theorem L_impl_NeedsLevelling (a_0 : List Int) (a_1 : List Bool) (a_2 : Int) {r : Bool} (h : p_impl_NeedsLevelling a_0 a_1 a_2 = some r) : callL E 59 [.d (.arr (a_0.map rI)), .d (.arr (a_1.map rB)), IN a_2] ([] : Fo) = some (BO r, ([] : Fo)) := by
  unfold p_impl_NeedsLevelling at h
  refine callW (fu := Try.f59) rfl rfl rfl NN ?_
  intro lp cl hlp hcl
  conv => lhs; whnf
  obtain ⟨y1, h_y1, h⟩ := callK_inv h
  rw [cl_eq hcl (L_impl_WearGap a_0 a_1 h_y1)]
  rotate_left
  · show _ = _
    kernel_rfl
  · show _ = _
    kernel_rfl
  conv => lhs; whnf
  obtain rfl := Option.some.inj h
  show _ = _
  kernel_rfl

noncomputable def p_impl_Wear_needs (a_0 : Wear) : Option Bool :=
  callK (p_impl_NeedsLevelling a_0.Erases a_0.Bad a_0.Bound) fun y1 =>
  some y1

set_option maxHeartbeats 4000000 in
theorem L_impl_Wear_needs (a_0 : Wear) {r : Bool} (h : p_impl_Wear_needs a_0 = some r) : callL E 159 [.agg [.d (.arr (a_0.Erases.map rI)), .d (.arr (a_0.Bad.map rB)), .d (.arr (a_0.Content.map rI)), IN a_0.Bound]] ([] : Fo) = some (BO r, ([] : Fo)) := by
  unfold p_impl_Wear_needs at h
  refine callW (fu := Try.f159) rfl rfl rfl NN ?_
  intro lp cl hlp hcl
  conv => lhs; whnf
  obtain ⟨y1, h_y1, h⟩ := callK_inv h
  rw [cl_eq hcl (L_impl_NeedsLevelling a_0.Erases a_0.Bad a_0.Bound h_y1)]
  rotate_left
  · show _ = _
    kernel_rfl
  · show _ = _
    kernel_rfl
  conv => lhs; whnf
  obtain rfl := Option.some.inj h
  show _ = _
  kernel_rfl

noncomputable def p_impl_Wear_clone (a_0 : Wear) : Option (Int × (List Int) × (List Bool) × (List Int)) :=
  grd (appOk a_0.Erases.length 8 = true) <|
  grd (appOk a_0.Bad.length 1 = true) <|
  grd (appOk a_0.Content.length 8 = true) <|
  some (a_0.Bound, a_0.Erases, a_0.Bad, a_0.Content)

set_option maxHeartbeats 4000000 in
theorem L_impl_Wear_clone (a_0 : Wear) {r : (Int × (List Int) × (List Bool) × (List Int))} (h : p_impl_Wear_clone a_0 = some r) : callL E 142 [.agg [.d (.arr (a_0.Erases.map rI)), .d (.arr (a_0.Bad.map rB)), .d (.arr (a_0.Content.map rI)), IN a_0.Bound]] ([] : Fo) = some (.agg [.sl 0, .sl 1, .sl 2, IN r.1], ([some (.arr 2 1 (r.2.1.map rI)), some (.arr 4 1 (r.2.2.1.map rB)), some (.arr 2 1 (r.2.2.2.map rI))] : Fo)) := by
  unfold p_impl_Wear_clone at h
  refine callW (fu := Try.f142) rfl rfl rfl NN ?_
  intro lp cl hlp hcl
  conv => lhs; whnf
  obtain ⟨hg1, h⟩ := grd_inv h
  rw [cl_eq hcl (f_clone (rows := a_0.Erases.map rI) rfl (app_eq hg1 (List.length_map ..) rfl) (allLen_map rI _ rI_len _) rfl)]
  rotate_left
  · exact rfl
  · exact rfl
  conv => lhs; whnf
  obtain ⟨hg2, h⟩ := grd_inv h
  rw [cl_eq hcl (f_clone (rows := a_0.Bad.map rB) rfl (app_eq hg2 (List.length_map ..) rfl) (allLen_map rB _ rB_len _) rfl)]
  rotate_left
  · exact rfl
  · exact rfl
  conv => lhs; whnf
  obtain ⟨hg3, h⟩ := grd_inv h
  rw [cl_eq hcl (f_clone (rows := a_0.Content.map rI) rfl (app_eq hg3 (List.length_map ..) rfl) (allLen_map rI _ rI_len _) rfl)]
  rotate_left
  · exact rfl
  · exact rfl
  conv => lhs; whnf
  obtain rfl := Option.some.inj h
  show _ = _
  kernel_rfl

noncomputable def p_slices_Index (a_0 : List Int) (a_1 : Int) : Option Int :=
  grd (a_0.length < 4611686018427387904) <|
  forK a_0 (fun (i5 : Nat) x7 (_ : Unit) (nx6 : Unit → Option _) =>
    if a_1 = x7 then
      some (i5 : Int)
    else
      nx6 ()) () (fun (_ : Unit) =>
    some (-1))

set_option maxHeartbeats 4000000 in
theorem L_slices_Index (a_0 : List Int) (a_1 : Int) {r : Int} (h : p_slices_Index a_0 a_1 = some r) : callL E 133 [.d (.arr (a_0.map rI)), IN a_1] ([] : Fo) = some (IN r, ([] : Fo)) := by
  unfold p_slices_Index at h
  refine callW (fu := Try.f133) rfl rfl rfl NN ?_
  intro lp cl hlp hcl
  conv => lhs; whnf
  try rw [len_of (l := a_0) (r := rI)]
  obtain ⟨hl_i5, h⟩ := grd_inv h
  refine loop_for hlp (l := a_0) hl_i5 (fun (i5 : Nat) (_ : Unit) => ([.d (.arr (a_0.map rI)), IN a_1, .dead, .dead, .dead, .dead, .dead, IN (a_0.length : Int), IN (i5 : Int)] ++ List.replicate 10 .dead : List V)) (fun (i5 : Nat) (_ : Unit) => ([] : Fo)) (fun (r : Int) => ((IN r : V), ([] : Fo))) ?_ ?_ () _ (fun kk => by kernel_rfl) h
  · clear h
    rintro next_nx6 nx6 i5 hi_i5 hnx6 ⟨⟩ r h
    try dsimp only at h
    have hn_i5 : i5 < 4611686018427387904 := by omega
    have hx_x7 := get_map rI a_0 i5 hi_i5
    generalize a_0[i5] = x7 at h hx_x7
    have hd_i5 : (decide ((i5 : Int) < (a_0.length : Int))) = true := decide_eq_true (by omega)
    conv => lhs; whnf
    rw [hd_i5]
    conv => lhs; whnf
    try (rw [decide_eq_true hq_x7]; conv => lhs; whnf)
    rw [hx_x7]
    conv => lhs; whnf
    rw [hx_x7]
    conv => lhs; whnf
    cases hb8 : (a_1 == x7)
    · replace h := ifF h (beqF hb8)
      conv => lhs; whnf
      rw [wrap_nat i5 (by have := hn_i5; omega)]
      exact hnx6 _ _ _ _ (fun kk => by kernel_rfl) h
    · replace h := ifT h (beqT hb8)
      conv => lhs; whnf
      obtain rfl := Option.some.inj h
      show _ = _
      kernel_rfl
  · clear h
    rintro next_nx6 ⟨⟩ r h
    try dsimp only at h
    have hd_i5 : (decide ((a_0.length : Int) < (a_0.length : Int))) = false := decide_eq_false (by omega)
    conv => lhs; whnf
    rw [hd_i5]
    conv => lhs; whnf
    obtain rfl := Option.some.inj h
    show _ = _
    kernel_rfl

noncomputable def p_slices_Contains (a_0 : List Int) (a_1 : Int) : Option Bool :=
  callK (p_slices_Index a_0 a_1) fun y1 =>
  some (decide (y1 ≥ 0))

set_option maxHeartbeats 4000000 in
theorem L_slices_Contains (a_0 : List Int) (a_1 : Int) {r : Bool} (h : p_slices_Contains a_0 a_1 = some r) : callL E 156 [.d (.arr (a_0.map rI)), IN a_1] ([] : Fo) = some (BO r, ([] : Fo)) := by
  unfold p_slices_Contains at h
  refine callW (fu := Try.f156) rfl rfl rfl NN ?_
  intro lp cl hlp hcl
  conv => lhs; whnf
  obtain ⟨y1, h_y1, h⟩ := callK_inv h
  rw [cl_eq hcl (L_slices_Index a_0 a_1 h_y1)]
  rotate_left
  · show _ = _
    kernel_rfl
  · show _ = _
    kernel_rfl
  conv => lhs; whnf
  obtain rfl := Option.some.inj h
  show _ = _
  kernel_rfl

noncomputable def p_impl_PickStatic_c1 (a_0 : Int) (a_1 : List Int) : Option Bool :=
  callK (p_slices_Contains a_1 a_0) fun y1 =>
  some y1

set_option maxHeartbeats 4000000 in
theorem L_impl_PickStatic_c1 (a_0 : Int) (a_1 : List Int) {r : Bool} (h : p_impl_PickStatic_c1 a_0 a_1 = some r) : callL E 155 [IN a_0, .bp 0 0] ([some (.box [.d (.arr (a_1.map rI))])] : Fo) = some (BO r, ([some (.box [.d (.arr (a_1.map rI))])] : Fo)) := by
  unfold p_impl_PickStatic_c1 at h
  refine callW (fu := Try.f155) rfl rfl rfl NN ?_
  intro lp cl hlp hcl
  conv => lhs; whnf
  obtain ⟨y1, h_y1, h⟩ := callK_inv h
  rw [cl_eq hcl (L_slices_Contains a_1 a_0 h_y1)]
  rotate_left
  · show _ = _
    kernel_rfl
  · show _ = _
    kernel_rfl
  conv => lhs; whnf
  obtain rfl := Option.some.inj h
  show _ = _
  kernel_rfl

noncomputable def p_slices_IndexFunc_impl_PickStatic_c1 (a_0 : List Int) (a_1 : List Int) : Option Int :=
  grd (a_0.length < 4611686018427387904) <|
  forK a_0 (fun (i6 : Nat) x8 (_ : Unit) (nx7 : Unit → Option _) =>
    callK (p_impl_PickStatic_c1 x8 a_1) fun y9 =>
    if y9 = true then
      some (i6 : Int)
    else
      nx7 ()) () (fun (_ : Unit) =>
    some (-1))

set_option maxHeartbeats 4000000 in
theorem L_slices_IndexFunc_impl_PickStatic_c1 (a_0 : List Int) (a_1 : List Int) {r : Int} (h : p_slices_IndexFunc_impl_PickStatic_c1 a_0 a_1 = some r) : callL E 210 [.sl 0, .clo 155 [.bp 1 0]] ([some (.arr 2 1 (a_0.map rI)), some (.box [.d (.arr (a_1.map rI))])] : Fo) = some (IN r, ([some (.arr 2 1 (a_0.map rI)), some (.box [.d (.arr (a_1.map rI))])] : Fo)) := by
  unfold p_slices_IndexFunc_impl_PickStatic_c1 at h
  refine callW (fu := Try.f210) rfl rfl rfl NN ?_
  intro lp cl hlp hcl
  conv => lhs; whnf
  try rw [len_of (l := a_0) (r := rI)]
  obtain ⟨hl_i6, h⟩ := grd_inv h
  refine loop_for hlp (l := a_0) hl_i6 (fun (i6 : Nat) (_ : Unit) => ([.sl 0, .clo 155 [.bp 1 0], .dead, .dead, .dead, .dead, .dead, IN (a_0.length : Int), IN (i6 : Int)] ++ List.replicate 10 .dead : List V)) (fun (i6 : Nat) (_ : Unit) => ([some (.arr 2 1 (a_0.map rI)), some (.box [.d (.arr (a_1.map rI))])] : Fo)) (fun (r : Int) => ((IN r : V), ([some (.arr 2 1 (a_0.map rI)), some (.box [.d (.arr (a_1.map rI))])] : Fo))) ?_ ?_ () _ (fun kk => by kernel_rfl) h
  · clear h
    rintro next_nx7 nx7 i6 hi_i6 hnx7 ⟨⟩ r h
    try dsimp only at h
    have hn_i6 : i6 < 4611686018427387904 := by omega
    have hx_x8 := get_map rI a_0 i6 hi_i6
    generalize a_0[i6] = x8 at h hx_x8
    have hd_i6 : (decide ((i6 : Int) < (a_0.length : Int))) = true := decide_eq_true (by omega)
    conv => lhs; whnf
    rw [hd_i6]
    conv => lhs; whnf
    try (rw [decide_eq_true hq_x8]; conv => lhs; whnf)
    rw [hx_x8]
    conv => lhs; whnf
    rw [hx_x8]
    conv => lhs; whnf
    obtain ⟨y9, h_y9, h⟩ := callK_inv h
    rw [cl_eq hcl (L_impl_PickStatic_c1 x8 a_1 h_y9)]
    rotate_left
    · show _ = _
      kernel_rfl
    · show _ = _
      kernel_rfl
    conv => lhs; whnf
    cases hb10 : y9
    · replace h := ifF h (booF hb10)
      conv => lhs; whnf
      rw [wrap_nat i6 (by have := hn_i6; omega)]
      exact hnx7 _ _ _ _ (fun kk => by kernel_rfl) h
    · replace h := ifT h hb10
      conv => lhs; whnf
      obtain rfl := Option.some.inj h
      show _ = _
      kernel_rfl
  · clear h
    rintro next_nx7 ⟨⟩ r h
    try dsimp only at h
    have hd_i6 : (decide ((a_0.length : Int) < (a_0.length : Int))) = false := decide_eq_false (by omega)
    conv => lhs; whnf
    rw [hd_i6]
    conv => lhs; whnf
    obtain rfl := Option.some.inj h
    show _ = _
    kernel_rfl

noncomputable def p_slices_DeleteFunc_impl_PickStatic_c1 (a_0 : List Int) (a_1 : List Int) : Option (List Int) :=
  callK (p_slices_IndexFunc_impl_PickStatic_c1 a_0 a_1) fun y1 =>
  if y1 = (-1) then
    some a_0
  else
    iterK (fun ((v3, v4, v5) : (Int × Int × (List Int))) (nx6 : (Int × Int × (List Int)) → Option _) =>
      if v4 < (v5.length : Int) then
        getK v5 v4 fun x8 =>
        callK (p_impl_PickStatic_c1 x8 a_1) fun y9 =>
        if y9 = true then
          nx6 (v3, (IntKind.i64.wrap (v4 + 1)), v5)
        else
          getK v5 v3 fun x11 =>
          nx6 ((IntKind.i64.wrap (v3 + 1)), (IntKind.i64.wrap (v4 + 1)), (v5.set (Int.toNat v3) x8))
      else
        grd (0 ≤ v3 ∧ v3 < (v5.length : Int)) <|
        grd (0 ≤ v3 ∧ v3 ≤ ((v5.take (Int.toNat v3) ++ List.replicate (v5.length - (Int.toNat v3)) (0 : Int)).length : Int)) <|
        some ((v5.take (Int.toNat v3) ++ List.replicate (v5.length - (Int.toNat v3)) (0 : Int)).take (Int.toNat v3))) NN (y1, (IntKind.i64.wrap (y1 + 1)), a_0)

set_option maxHeartbeats 4000000 in
theorem L_slices_DeleteFunc_impl_PickStatic_c1 (a_0 : List Int) (a_1 : List Int) {r : (List Int)} (h : p_slices_DeleteFunc_impl_PickStatic_c1 a_0 a_1 = some r) : callL E 153 [.sl 0, .clo 155 [.bp 1 0]] ([some (.arr 2 1 (a_0.map rI)), some (.box [.d (.arr (a_1.map rI))])] : Fo) = some (.sl 2, ([none, some (.box [.d (.arr (a_1.map rI))]), some (.arr 2 1 (r.map rI))] : Fo)) := by
  unfold p_slices_DeleteFunc_impl_PickStatic_c1 at h
  refine callW (fu := Try.f153) rfl rfl rfl NN ?_
  intro lp cl hlp hcl
  conv => lhs; whnf
  obtain ⟨y1, h_y1, h⟩ := callK_inv h
  rw [cl_eq hcl (L_slices_IndexFunc_impl_PickStatic_c1 a_0 a_1 h_y1)]
  rotate_left
  · show _ = _
    kernel_rfl
  · show _ = _
    kernel_rfl
  conv => lhs; whnf
  cases hb2 : (y1 == (-1))
  · replace h := ifF h (beqF hb2)
    conv => lhs; whnf
    refine loop_iter hlp (fun ((v3, v4, v5) : (Int × Int × (List Int))) => ([.sl 0, .clo 155 [.bp 1 0], .dead, .dead, .dead, IN v3, IN v4] ++ List.replicate 35 .dead : List V)) (fun ((v3, v4, v5) : (Int × Int × (List Int))) => ([some (.arr 2 1 (v5.map rI)), some (.box [.d (.arr (a_1.map rI))])] : Fo)) (fun (r : (List Int)) => ((.sl 2 : V), ([none, some (.box [.d (.arr (a_1.map rI))]), some (.arr 2 1 (r.map rI))] : Fo))) ?_ (y1, (IntKind.i64.wrap (y1 + 1)), a_0) _ (fun kk => by kernel_rfl) h
    clear h
    rintro next_nx6 nx6 hnx6 ⟨v3, v4, v5⟩ r h
    try dsimp only at h
    conv => lhs; whnf
    try rw [len_of (l := v5) (r := rI)]
    cases hb7 : (decide (v4 < (v5.length : Int)))
    · replace h := ifF h (decF hb7)
      conv => lhs; whnf
      obtain ⟨hg12, h⟩ := grd_inv h
      try rw [List.length_map]
      try (rw [decide_eq_true hg12.1]; conv => lhs; whnf)
      try (rw [decide_eq_true hg12.2])
      conv => lhs; whnf
      first | (rw [wipe_of (r := rI) (l := v5) (x := (0 : Int)) ?hh]; case hh => exact rfl) | skip
      obtain ⟨hg13, h⟩ := grd_inv h
      try rw [List.length_map]
      try (rw [decide_eq_true hg13.1]; conv => lhs; whnf)
      try (rw [decide_eq_true hg13.2])
      conv => lhs; whnf
      try rw [take_of (r := rI) (l := (v5.take (Int.toNat v3) ++ List.replicate (v5.length - (Int.toNat v3)) (0 : Int)))]
      obtain rfl := Option.some.inj h
      show _ = _
      kernel_rfl
    · replace h := ifT h (decT hb7)
      conv => lhs; whnf
      obtain ⟨x8, hq_x8, hx_x8', h⟩ := getK_inv h
      have hx_x8 := get_of (r := rI) hx_x8'
      try (rw [decide_eq_true hq_x8]; conv => lhs; whnf)
      rw [hx_x8]
      conv => lhs; whnf
      rw [hx_x8]
      conv => lhs; whnf
      obtain ⟨y9, h_y9, h⟩ := callK_inv h
      rw [cl_eq hcl (L_impl_PickStatic_c1 x8 a_1 h_y9)]
      rotate_left
      · show _ = _
        kernel_rfl
      · show _ = _
        kernel_rfl
      conv => lhs; whnf
      cases hb10 : y9
      · replace h := ifF h (booF hb10)
        conv => lhs; whnf
        obtain ⟨x11, hq_x11, hx_x11', h⟩ := getK_inv h
        have hx_x11 := get_of (r := rI) hx_x11'
        try (rw [decide_eq_true hq_x11]; conv => lhs; whnf)
        rw [hx_x11]
        conv => lhs; whnf
        rw [hx_x11]
        conv => lhs; whnf
        first | (rw [map_set_of (r := rI) (l := v5) (x := x8) ?hh]; case hh => exact rfl) | skip
        exact hnx6 _ _ _ _ (fun kk => by kernel_rfl) h
      · replace h := ifT h hb10
        conv => lhs; whnf
        exact hnx6 _ _ _ _ (fun kk => by kernel_rfl) h
  · replace h := ifT h (beqT hb2)
    conv => lhs; whnf
    obtain rfl := Option.some.inj h
    show _ = _
    kernel_rfl

noncomputable def p_impl_PickStatic (a_0 : List Int) (a_1 : List Bool) (a_2 : List Int) : Option Int :=
  callK (p_impl_good a_0 a_1) fun y1 =>
  callK (p_slices_DeleteFunc_impl_PickStatic_c1 y1 a_2) fun y2 =>
  callK (p_impl_bestOf_impl_lessThan a_0 y2) fun y3 =>
  some y3

set_option maxHeartbeats 4000000 in
theorem L_impl_PickStatic (a_0 : List Int) (a_1 : List Bool) (a_2 : List Int) {r : Int} (h : p_impl_PickStatic a_0 a_1 a_2 = some r) : callL E 53 [.d (.arr (a_0.map rI)), .d (.arr (a_1.map rB)), .d (.arr (a_2.map rI))] ([] : Fo) = some (IN r, ([] : Fo)) := by
  unfold p_impl_PickStatic at h
  refine callW (fu := Try.f53) rfl rfl rfl NN ?_
  intro lp cl hlp hcl
  conv => lhs; whnf
  obtain ⟨y1, h_y1, h⟩ := callK_inv h
  rw [cl_eq hcl (L_impl_good a_0 a_1 h_y1)]
  rotate_left
  · show _ = _
    kernel_rfl
  · show _ = _
    kernel_rfl
  conv => lhs; whnf
  obtain ⟨y2, h_y2, h⟩ := callK_inv h
  rw [cl_eq hcl (L_slices_DeleteFunc_impl_PickStatic_c1 y1 a_2 h_y2)]
  rotate_left
  · show _ = _
    kernel_rfl
  · show _ = _
    kernel_rfl
  conv => lhs; whnf
  obtain ⟨y3, h_y3, h⟩ := callK_inv h
  rw [cl_eq hcl (L_impl_bestOf_impl_lessThan a_0 y2 h_y3)]
  rotate_left
  · show _ = _
    kernel_rfl
  · show _ = _
    kernel_rfl
  conv => lhs; whnf
  obtain rfl := Option.some.inj h
  show _ = _
  kernel_rfl

noncomputable def p_impl_Wear_free_c1 (a_0 : Int) (a_1 : Wear) : Option Bool :=
  getK a_1.Content a_0 fun x1 =>
  some (x1 != 0)

set_option maxHeartbeats 4000000 in
theorem L_impl_Wear_free_c1 (a_0 : Int) (a_1 : Wear) {r : Bool} (h : p_impl_Wear_free_c1 a_0 a_1 = some r) : callL E 268 [IN a_0, .bp 0 0] ([some (.box [.d (.arr (a_1.Erases.map rI)), .d (.arr (a_1.Bad.map rB)), .d (.arr (a_1.Content.map rI)), IN a_1.Bound])] : Fo) = some (BO r, ([some (.box [.d (.arr (a_1.Erases.map rI)), .d (.arr (a_1.Bad.map rB)), .d (.arr (a_1.Content.map rI)), IN a_1.Bound])] : Fo)) := by
  unfold p_impl_Wear_free_c1 at h
  refine callW (fu := Try.f268) rfl rfl rfl NN ?_
  intro lp cl hlp hcl
  conv => lhs; whnf
  obtain ⟨x1, hq_x1, hx_x1', h⟩ := getK_inv h
  have hx_x1 := get_of (r := rI) hx_x1'
  try (rw [decide_eq_true hq_x1]; conv => lhs; whnf)
  rw [hx_x1]
  conv => lhs; whnf
  rw [hx_x1]
  conv => lhs; whnf
  obtain rfl := Option.some.inj h
  show _ = _
  kernel_rfl

noncomputable def p_slices_IndexFunc_impl_Wear_free_c1 (a_0 : List Int) (a_1 : Wear) : Option Int :=
  grd (a_0.length < 4611686018427387904) <|
  forK a_0 (fun (i6 : Nat) x8 (_ : Unit) (nx7 : Unit → Option _) =>
    callK (p_impl_Wear_free_c1 x8 a_1) fun y9 =>
    if y9 = true then
      some (i6 : Int)
    else
      nx7 ()) () (fun (_ : Unit) =>
    some (-1))

set_option maxHeartbeats 4000000 in
theorem L_slices_IndexFunc_impl_Wear_free_c1 (a_0 : List Int) (a_1 : Wear) {r : Int} (h : p_slices_IndexFunc_impl_Wear_free_c1 a_0 a_1 = some r) : callL E 210 [.sl 0, .clo 268 [.bp 1 0]] ([some (.arr 2 1 (a_0.map rI)), some (.box [.d (.arr (a_1.Erases.map rI)), .d (.arr (a_1.Bad.map rB)), .d (.arr (a_1.Content.map rI)), IN a_1.Bound])] : Fo) = some (IN r, ([some (.arr 2 1 (a_0.map rI)), some (.box [.d (.arr (a_1.Erases.map rI)), .d (.arr (a_1.Bad.map rB)), .d (.arr (a_1.Content.map rI)), IN a_1.Bound])] : Fo)) := by
  unfold p_slices_IndexFunc_impl_Wear_free_c1 at h
  refine callW (fu := Try.f210) rfl rfl rfl NN ?_
  intro lp cl hlp hcl
  conv => lhs; whnf
  try rw [len_of (l := a_0) (r := rI)]
  obtain ⟨hl_i6, h⟩ := grd_inv h
  refine loop_for hlp (l := a_0) hl_i6 (fun (i6 : Nat) (_ : Unit) => ([.sl 0, .clo 268 [.bp 1 0], .dead, .dead, .dead, .dead, .dead, IN (a_0.length : Int), IN (i6 : Int)] ++ List.replicate 10 .dead : List V)) (fun (i6 : Nat) (_ : Unit) => ([some (.arr 2 1 (a_0.map rI)), some (.box [.d (.arr (a_1.Erases.map rI)), .d (.arr (a_1.Bad.map rB)), .d (.arr (a_1.Content.map rI)), IN a_1.Bound])] : Fo)) (fun (r : Int) => ((IN r : V), ([some (.arr 2 1 (a_0.map rI)), some (.box [.d (.arr (a_1.Erases.map rI)), .d (.arr (a_1.Bad.map rB)), .d (.arr (a_1.Content.map rI)), IN a_1.Bound])] : Fo))) ?_ ?_ () _ (fun kk => by kernel_rfl) h
  · clear h
    rintro next_nx7 nx7 i6 hi_i6 hnx7 ⟨⟩ r h
    try dsimp only at h
    have hn_i6 : i6 < 4611686018427387904 := by omega
    have hx_x8 := get_map rI a_0 i6 hi_i6
    generalize a_0[i6] = x8 at h hx_x8
    have hd_i6 : (decide ((i6 : Int) < (a_0.length : Int))) = true := decide_eq_true (by omega)
    conv => lhs; whnf
    rw [hd_i6]
    conv => lhs; whnf
    try (rw [decide_eq_true hq_x8]; conv => lhs; whnf)
    rw [hx_x8]
    conv => lhs; whnf
    rw [hx_x8]
    conv => lhs; whnf
    obtain ⟨y9, h_y9, h⟩ := callK_inv h
    rw [cl_eq hcl (L_impl_Wear_free_c1 x8 a_1 h_y9)]
    rotate_left
    · show _ = _
      kernel_rfl
    · show _ = _
      kernel_rfl
    conv => lhs; whnf
    cases hb10 : y9
    · replace h := ifF h (booF hb10)
      conv => lhs; whnf
      rw [wrap_nat i6 (by have := hn_i6; omega)]
      exact hnx7 _ _ _ _ (fun kk => by kernel_rfl) h
    · replace h := ifT h hb10
      conv => lhs; whnf
      obtain rfl := Option.some.inj h
      show _ = _
      kernel_rfl
  · clear h
    rintro next_nx7 ⟨⟩ r h
    try dsimp only at h
    have hd_i6 : (decide ((a_0.length : Int) < (a_0.length : Int))) = false := decide_eq_false (by omega)
    conv => lhs; whnf
    rw [hd_i6]
    conv => lhs; whnf
    obtain rfl := Option.some.inj h
    show _ = _
    kernel_rfl

noncomputable def p_slices_DeleteFunc_impl_Wear_free_c1 (a_0 : List Int) (a_1 : Wear) : Option (List Int) :=
  callK (p_slices_IndexFunc_impl_Wear_free_c1 a_0 a_1) fun y1 =>
  if y1 = (-1) then
    some a_0
  else
    iterK (fun ((v3, v4, v5) : (Int × Int × (List Int))) (nx6 : (Int × Int × (List Int)) → Option _) =>
      if v4 < (v5.length : Int) then
        getK v5 v4 fun x8 =>
        callK (p_impl_Wear_free_c1 x8 a_1) fun y9 =>
        if y9 = true then
          nx6 (v3, (IntKind.i64.wrap (v4 + 1)), v5)
        else
          getK v5 v3 fun x11 =>
          nx6 ((IntKind.i64.wrap (v3 + 1)), (IntKind.i64.wrap (v4 + 1)), (v5.set (Int.toNat v3) x8))
      else
        grd (0 ≤ v3 ∧ v3 < (v5.length : Int)) <|
        grd (0 ≤ v3 ∧ v3 ≤ ((v5.take (Int.toNat v3) ++ List.replicate (v5.length - (Int.toNat v3)) (0 : Int)).length : Int)) <|
        some ((v5.take (Int.toNat v3) ++ List.replicate (v5.length - (Int.toNat v3)) (0 : Int)).take (Int.toNat v3))) NN (y1, (IntKind.i64.wrap (y1 + 1)), a_0)

set_option maxHeartbeats 4000000 in
theorem L_slices_DeleteFunc_impl_Wear_free_c1 (a_0 : List Int) (a_1 : Wear) {r : (List Int)} (h : p_slices_DeleteFunc_impl_Wear_free_c1 a_0 a_1 = some r) : callL E 153 [.sl 0, .clo 268 [.bp 1 0]] ([some (.arr 2 1 (a_0.map rI)), some (.box [.d (.arr (a_1.Erases.map rI)), .d (.arr (a_1.Bad.map rB)), .d (.arr (a_1.Content.map rI)), IN a_1.Bound])] : Fo) = some (.sl 2, ([none, some (.box [.d (.arr (a_1.Erases.map rI)), .d (.arr (a_1.Bad.map rB)), .d (.arr (a_1.Content.map rI)), IN a_1.Bound]), some (.arr 2 1 (r.map rI))] : Fo)) := by
  unfold p_slices_DeleteFunc_impl_Wear_free_c1 at h
  refine callW (fu := Try.f153) rfl rfl rfl NN ?_
  intro lp cl hlp hcl
  conv => lhs; whnf
  obtain ⟨y1, h_y1, h⟩ := callK_inv h
  rw [cl_eq hcl (L_slices_IndexFunc_impl_Wear_free_c1 a_0 a_1 h_y1)]
  rotate_left
  · show _ = _
    kernel_rfl
  · show _ = _
    kernel_rfl
  conv => lhs; whnf
  cases hb2 : (y1 == (-1))
  · replace h := ifF h (beqF hb2)
    conv => lhs; whnf
    refine loop_iter hlp (fun ((v3, v4, v5) : (Int × Int × (List Int))) => ([.sl 0, .clo 268 [.bp 1 0], .dead, .dead, .dead, IN v3, IN v4] ++ List.replicate 35 .dead : List V)) (fun ((v3, v4, v5) : (Int × Int × (List Int))) => ([some (.arr 2 1 (v5.map rI)), some (.box [.d (.arr (a_1.Erases.map rI)), .d (.arr (a_1.Bad.map rB)), .d (.arr (a_1.Content.map rI)), IN a_1.Bound])] : Fo)) (fun (r : (List Int)) => ((.sl 2 : V), ([none, some (.box [.d (.arr (a_1.Erases.map rI)), .d (.arr (a_1.Bad.map rB)), .d (.arr (a_1.Content.map rI)), IN a_1.Bound]), some (.arr 2 1 (r.map rI))] : Fo))) ?_ (y1, (IntKind.i64.wrap (y1 + 1)), a_0) _ (fun kk => by kernel_rfl) h
    clear h
    rintro next_nx6 nx6 hnx6 ⟨v3, v4, v5⟩ r h
    try dsimp only at h
    conv => lhs; whnf
    try rw [len_of (l := v5) (r := rI)]
    cases hb7 : (decide (v4 < (v5.length : Int)))
    · replace h := ifF h (decF hb7)
      conv => lhs; whnf
      obtain ⟨hg12, h⟩ := grd_inv h
      try rw [List.length_map]
      try (rw [decide_eq_true hg12.1]; conv => lhs; whnf)
      try (rw [decide_eq_true hg12.2])
      conv => lhs; whnf
      first | (rw [wipe_of (r := rI) (l := v5) (x := (0 : Int)) ?hh]; case hh => exact rfl) | skip
      obtain ⟨hg13, h⟩ := grd_inv h
      try rw [List.length_map]
      try (rw [decide_eq_true hg13.1]; conv => lhs; whnf)
      try (rw [decide_eq_true hg13.2])
      conv => lhs; whnf
      try rw [take_of (r := rI) (l := (v5.take (Int.toNat v3) ++ List.replicate (v5.length - (Int.toNat v3)) (0 : Int)))]
      obtain rfl := Option.some.inj h
      show _ = _
      kernel_rfl
    · replace h := ifT h (decT hb7)
      conv => lhs; whnf
      obtain ⟨x8, hq_x8, hx_x8', h⟩ := getK_inv h
      have hx_x8 := get_of (r := rI) hx_x8'
      try (rw [decide_eq_true hq_x8]; conv => lhs; whnf)
      rw [hx_x8]
      conv => lhs; whnf
      rw [hx_x8]
      conv => lhs; whnf
      obtain ⟨y9, h_y9, h⟩ := callK_inv h
      rw [cl_eq hcl (L_impl_Wear_free_c1 x8 a_1 h_y9)]
      rotate_left
      · show _ = _
        kernel_rfl
      · show _ = _
        kernel_rfl
      conv => lhs; whnf
      cases hb10 : y9
      · replace h := ifF h (booF hb10)
        conv => lhs; whnf
        obtain ⟨x11, hq_x11, hx_x11', h⟩ := getK_inv h
        have hx_x11 := get_of (r := rI) hx_x11'
        try (rw [decide_eq_true hq_x11]; conv => lhs; whnf)
        rw [hx_x11]
        conv => lhs; whnf
        rw [hx_x11]
        conv => lhs; whnf
        first | (rw [map_set_of (r := rI) (l := v5) (x := x8) ?hh]; case hh => exact rfl) | skip
        exact hnx6 _ _ _ _ (fun kk => by kernel_rfl) h
      · replace h := ifT h hb10
        conv => lhs; whnf
        exact hnx6 _ _ _ _ (fun kk => by kernel_rfl) h
  · replace h := ifT h (beqT hb2)
    conv => lhs; whnf
    obtain rfl := Option.some.inj h
    show _ = _
    kernel_rfl

noncomputable def p_impl_Wear_free (a_0 : Wear) : Option (List Int) :=
  callK (p_impl_good a_0.Erases a_0.Bad) fun y1 =>
  callK (p_slices_DeleteFunc_impl_Wear_free_c1 y1 a_0) fun y2 =>
  some y2

set_option maxHeartbeats 4000000 in
theorem L_impl_Wear_free (a_0 : Wear) {r : (List Int)} (h : p_impl_Wear_free a_0 = some r) : callL E 226 [.agg [.d (.arr (a_0.Erases.map rI)), .d (.arr (a_0.Bad.map rB)), .d (.arr (a_0.Content.map rI)), IN a_0.Bound]] ([] : Fo) = some (.sl 0, ([some (.arr 2 1 (r.map rI))] : Fo)) := by
  unfold p_impl_Wear_free at h
  refine callW (fu := Try.f226) rfl rfl rfl NN ?_
  intro lp cl hlp hcl
  conv => lhs; whnf
  obtain ⟨y1, h_y1, h⟩ := callK_inv h
  rw [cl_eq hcl (L_impl_good a_0.Erases a_0.Bad h_y1)]
  rotate_left
  · show _ = _
    kernel_rfl
  · show _ = _
    kernel_rfl
  conv => lhs; whnf
  obtain ⟨y2, h_y2, h⟩ := callK_inv h
  rw [cl_eq hcl (L_slices_DeleteFunc_impl_Wear_free_c1 y1 a_0 h_y2)]
  rotate_left
  · show _ = _
    kernel_rfl
  · show _ = _
    kernel_rfl
  conv => lhs; whnf
  obtain rfl := Option.some.inj h
  show _ = _
  kernel_rfl

noncomputable def p_impl_bestOf_impl_lessThan' (a_0 : List Int) (a_1 : List Int) : Option Int :=
  grd (a_1.length < 4611686018427387904) <|
  forK a_1 (fun (i12 : Nat) x15 (v13 : Int) (nx14 : Int → Option _) =>
    if v13 < 0 then
      nx14 x15
    else
      getK a_0 x15 fun x17 =>
      getK a_0 v13 fun x18 =>
      callK (p_impl_lessThan x17 x18) fun y19 =>
      if y19 = true then
        nx14 x15
      else
        if x17 = x18 then
          if x15 < v13 then
            nx14 x15
          else
            nx14 v13
        else
          nx14 v13) (-1) (fun (v13 : Int) =>
    some v13)

set_option maxHeartbeats 4000000 in
theorem L_impl_bestOf_impl_lessThan' (a_0 : List Int) (a_1 : List Int) {r : Int} (h : p_impl_bestOf_impl_lessThan' a_0 a_1 = some r) : callL E 150 [.d (.arr (a_0.map rI)), .d (.arr (a_1.map rI)), .clo 151 []] ([] : Fo) = some (IN r, ([] : Fo)) := by
  unfold p_impl_bestOf_impl_lessThan' at h
  refine callW (fu := Try.f150) rfl rfl rfl NN ?_
  intro lp cl hlp hcl
  conv => lhs; whnf
  try rw [len_of (l := a_1) (r := rI)]
  obtain ⟨hl_i12, h⟩ := grd_inv h
  refine loop_for hlp (l := a_1) hl_i12 (fun (i12 : Nat) (v13 : Int) => ([.d (.arr (a_0.map rI)), .dead, .clo 151 [], .dead, .dead, .dead, .dead, IN v13, .dead, .dead, .d (.arr (a_1.map rI)), IN (a_1.length : Int), IN (i12 : Int)] ++ List.replicate 36 .dead : List V)) (fun (i12 : Nat) (v13 : Int) => ([] : Fo)) (fun (r : Int) => ((IN r : V), ([] : Fo))) ?_ ?_ (-1) _ (fun kk => by kernel_rfl) h
  · clear h
    rintro next_nx14 nx14 i12 hi_i12 hnx14 v13 r h
    try dsimp only at h
    have hn_i12 : i12 < 4611686018427387904 := by omega
    have hx_x15 := get_map rI a_1 i12 hi_i12
    generalize a_1[i12] = x15 at h hx_x15
    have hd_i12 : (decide ((i12 : Int) < (a_1.length : Int))) = true := decide_eq_true (by omega)
    conv => lhs; whnf
    rw [hd_i12]
    conv => lhs; whnf
    try (rw [decide_eq_true hq_x15]; conv => lhs; whnf)
    rw [hx_x15]
    conv => lhs; whnf
    rw [hx_x15]
    conv => lhs; whnf
    cases hb16 : (decide (v13 < 0))
    · replace h := ifF h (decF hb16)
      conv => lhs; whnf
      try (rw [hb16]; conv => lhs; whnf)
      try (rw [hb16]; conv => lhs; whnf)
      try (rw [hb16]; conv => lhs; whnf)
      obtain ⟨x17, hq_x17, hx_x17', h⟩ := getK_inv h
      have hx_x17 := get_of (r := rI) hx_x17'
      try (rw [decide_eq_true hq_x17]; conv => lhs; whnf)
      rw [hx_x17]
      conv => lhs; whnf
      try (rw [hb16]; conv => lhs; whnf)
      rw [hx_x17]
      conv => lhs; whnf
      try (rw [hb16]; conv => lhs; whnf)
      try (rw [hb16]; conv => lhs; whnf)
      try (rw [hb16]; conv => lhs; whnf)
      obtain ⟨x18, hq_x18, hx_x18', h⟩ := getK_inv h
      have hx_x18 := get_of (r := rI) hx_x18'
      try (rw [decide_eq_true hq_x18]; conv => lhs; whnf)
      rw [hx_x18]
      conv => lhs; whnf
      try (rw [hb16]; conv => lhs; whnf)
      rw [hx_x18]
      conv => lhs; whnf
      try (rw [hb16]; conv => lhs; whnf)
      obtain ⟨y19, h_y19, h⟩ := callK_inv h
      rw [cl_eq hcl (L_impl_lessThan x17 x18 h_y19)]
      rotate_left
      · show _ = _
        kernel_rfl
      · show _ = _
        kernel_rfl
      conv => lhs; whnf
      try (rw [hb16]; conv => lhs; whnf)
      cases hb20 : y19
      · replace h := ifF h (booF hb20)
        conv => lhs; whnf
        try (rw [hb20]; conv => lhs; whnf)
        try (rw [hb20]; conv => lhs; whnf)
        try (rw [decide_eq_true hq_x17]; conv => lhs; whnf)
        rw [hx_x17]
        conv => lhs; whnf
        try (rw [hb20]; conv => lhs; whnf)
        rw [hx_x17]
        conv => lhs; whnf
        try (rw [hb20]; conv => lhs; whnf)
        try (rw [hb20]; conv => lhs; whnf)
        try (rw [hb20]; conv => lhs; whnf)
        try (rw [decide_eq_true hq_x18]; conv => lhs; whnf)
        rw [hx_x18]
        conv => lhs; whnf
        try (rw [hb20]; conv => lhs; whnf)
        rw [hx_x18]
        conv => lhs; whnf
        try (rw [hb20]; conv => lhs; whnf)
        try (rw [hb20]; conv => lhs; whnf)
        cases hb21 : (x17 == x18)
        · replace h := ifF h (beqF hb21)
          conv => lhs; whnf
          try (rw [hb21]; conv => lhs; whnf)
          try (rw [hb21]; conv => lhs; whnf)
          try (rw [hb20]; conv => lhs; whnf)
          try (rw [hb21]; conv => lhs; whnf)
          try (rw [hb20]; conv => lhs; whnf)
          rw [wrap_nat i12 (by have := hn_i12; omega)]
          exact hnx14 _ _ _ _ (fun kk => by kernel_rfl) h
        · replace h := ifT h (beqT hb21)
          conv => lhs; whnf
          try (rw [hb21]; conv => lhs; whnf)
          try (rw [hb21]; conv => lhs; whnf)
          try (rw [hb20]; conv => lhs; whnf)
          try (rw [hb21]; conv => lhs; whnf)
          try (rw [hb20]; conv => lhs; whnf)
          cases hb22 : (decide (x15 < v13))
          · replace h := ifF h (decF hb22)
            conv => lhs; whnf
            rw [wrap_nat i12 (by have := hn_i12; omega)]
            exact hnx14 _ _ _ _ (fun kk => by kernel_rfl) h
          · replace h := ifT h (decT hb22)
            conv => lhs; whnf
            rw [wrap_nat i12 (by have := hn_i12; omega)]
            exact hnx14 _ _ _ _ (fun kk => by kernel_rfl) h
      · replace h := ifT h hb20
        conv => lhs; whnf
        try (rw [hb20]; conv => lhs; whnf)
        try (rw [hb20]; conv => lhs; whnf)
        try (rw [hb20]; conv => lhs; whnf)
        try (rw [hb20]; conv => lhs; whnf)
        try (rw [hb20]; conv => lhs; whnf)
        try (rw [hb20]; conv => lhs; whnf)
        try (rw [hb20]; conv => lhs; whnf)
        try (rw [hb20]; conv => lhs; whnf)
        try (rw [hb20]; conv => lhs; whnf)
        try (rw [hb20]; conv => lhs; whnf)
        try (rw [hb20]; conv => lhs; whnf)
        rw [wrap_nat i12 (by have := hn_i12; omega)]
        exact hnx14 _ _ _ _ (fun kk => by kernel_rfl) h
    · replace h := ifT h (decT hb16)
      conv => lhs; whnf
      try (rw [hb16]; conv => lhs; whnf)
      try (rw [hb16]; conv => lhs; whnf)
      try (rw [hb16]; conv => lhs; whnf)
      try (rw [hb16]; conv => lhs; whnf)
      try (rw [hb16]; conv => lhs; whnf)
      try (rw [hb16]; conv => lhs; whnf)
      try (rw [hb16]; conv => lhs; whnf)
      try (rw [hb16]; conv => lhs; whnf)
      try (rw [hb16]; conv => lhs; whnf)
      try (rw [hb16]; conv => lhs; whnf)
      rw [wrap_nat i12 (by have := hn_i12; omega)]
      exact hnx14 _ _ _ _ (fun kk => by kernel_rfl) h
  · clear h
    rintro next_nx14 v13 r h
    try dsimp only at h
    have hd_i12 : (decide ((a_1.length : Int) < (a_1.length : Int))) = false := decide_eq_false (by omega)
    conv => lhs; whnf
    rw [hd_i12]
    conv => lhs; whnf
    obtain rfl := Option.some.inj h
    show _ = _
    kernel_rfl

noncomputable def p_impl_bestOf_impl_moreThan' (a_0 : List Int) (a_1 : List Int) : Option Int :=
  grd (a_1.length < 4611686018427387904) <|
  forK a_1 (fun (i12 : Nat) x15 (v13 : Int) (nx14 : Int → Option _) =>
    if v13 < 0 then
      nx14 x15
    else
      getK a_0 x15 fun x17 =>
      getK a_0 v13 fun x18 =>
      callK (p_impl_moreThan x17 x18) fun y19 =>
      if y19 = true then
        nx14 x15
      else
        if x17 = x18 then
          if x15 < v13 then
            nx14 x15
          else
            nx14 v13
        else
          nx14 v13) (-1) (fun (v13 : Int) =>
    some v13)

set_option maxHeartbeats 4000000 in
theorem L_impl_bestOf_impl_moreThan' (a_0 : List Int) (a_1 : List Int) {r : Int} (h : p_impl_bestOf_impl_moreThan' a_0 a_1 = some r) : callL E 150 [.d (.arr (a_0.map rI)), .d (.arr (a_1.map rI)), .clo 152 []] ([] : Fo) = some (IN r, ([] : Fo)) := by
  unfold p_impl_bestOf_impl_moreThan' at h
  refine callW (fu := Try.f150) rfl rfl rfl NN ?_
  intro lp cl hlp hcl
  conv => lhs; whnf
  try rw [len_of (l := a_1) (r := rI)]
  obtain ⟨hl_i12, h⟩ := grd_inv h
  refine loop_for hlp (l := a_1) hl_i12 (fun (i12 : Nat) (v13 : Int) => ([.d (.arr (a_0.map rI)), .dead, .clo 152 [], .dead, .dead, .dead, .dead, IN v13, .dead, .dead, .d (.arr (a_1.map rI)), IN (a_1.length : Int), IN (i12 : Int)] ++ List.replicate 36 .dead : List V)) (fun (i12 : Nat) (v13 : Int) => ([] : Fo)) (fun (r : Int) => ((IN r : V), ([] : Fo))) ?_ ?_ (-1) _ (fun kk => by kernel_rfl) h
  · clear h
    rintro next_nx14 nx14 i12 hi_i12 hnx14 v13 r h
    try dsimp only at h
    have hn_i12 : i12 < 4611686018427387904 := by omega
    have hx_x15 := get_map rI a_1 i12 hi_i12
    generalize a_1[i12] = x15 at h hx_x15
    have hd_i12 : (decide ((i12 : Int) < (a_1.length : Int))) = true := decide_eq_true (by omega)
    conv => lhs; whnf
    rw [hd_i12]
    conv => lhs; whnf
    try (rw [decide_eq_true hq_x15]; conv => lhs; whnf)
    rw [hx_x15]
    conv => lhs; whnf
    rw [hx_x15]
    conv => lhs; whnf
    cases hb16 : (decide (v13 < 0))
    · replace h := ifF h (decF hb16)
      conv => lhs; whnf
      try (rw [hb16]; conv => lhs; whnf)
      try (rw [hb16]; conv => lhs; whnf)
      try (rw [hb16]; conv => lhs; whnf)
      obtain ⟨x17, hq_x17, hx_x17', h⟩ := getK_inv h
      have hx_x17 := get_of (r := rI) hx_x17'
      try (rw [decide_eq_true hq_x17]; conv => lhs; whnf)
      rw [hx_x17]
      conv => lhs; whnf
      try (rw [hb16]; conv => lhs; whnf)
      rw [hx_x17]
      conv => lhs; whnf
      try (rw [hb16]; conv => lhs; whnf)
      try (rw [hb16]; conv => lhs; whnf)
      try (rw [hb16]; conv => lhs; whnf)
      obtain ⟨x18, hq_x18, hx_x18', h⟩ := getK_inv h
      have hx_x18 := get_of (r := rI) hx_x18'
      try (rw [decide_eq_true hq_x18]; conv => lhs; whnf)
      rw [hx_x18]
      conv => lhs; whnf
      try (rw [hb16]; conv => lhs; whnf)
      rw [hx_x18]
      conv => lhs; whnf
      try (rw [hb16]; conv => lhs; whnf)
      obtain ⟨y19, h_y19, h⟩ := callK_inv h
      rw [cl_eq hcl (L_impl_moreThan x17 x18 h_y19)]
      rotate_left
      · show _ = _
        kernel_rfl
      · show _ = _
        kernel_rfl
      conv => lhs; whnf
      try (rw [hb16]; conv => lhs; whnf)
      cases hb20 : y19
      · replace h := ifF h (booF hb20)
        conv => lhs; whnf
        try (rw [hb20]; conv => lhs; whnf)
        try (rw [hb20]; conv => lhs; whnf)
        try (rw [decide_eq_true hq_x17]; conv => lhs; whnf)
        rw [hx_x17]
        conv => lhs; whnf
        try (rw [hb20]; conv => lhs; whnf)
        rw [hx_x17]
        conv => lhs; whnf
        try (rw [hb20]; conv => lhs; whnf)
        try (rw [hb20]; conv => lhs; whnf)
        try (rw [hb20]; conv => lhs; whnf)
        try (rw [decide_eq_true hq_x18]; conv => lhs; whnf)
        rw [hx_x18]
        conv => lhs; whnf
        try (rw [hb20]; conv => lhs; whnf)
        rw [hx_x18]
        conv => lhs; whnf
        try (rw [hb20]; conv => lhs; whnf)
        try (rw [hb20]; conv => lhs; whnf)
        cases hb21 : (x17 == x18)
        · replace h := ifF h (beqF hb21)
          conv => lhs; whnf
          try (rw [hb21]; conv => lhs; whnf)
          try (rw [hb21]; conv => lhs; whnf)
          try (rw [hb20]; conv => lhs; whnf)
          try (rw [hb21]; conv => lhs; whnf)
          try (rw [hb20]; conv => lhs; whnf)
          rw [wrap_nat i12 (by have := hn_i12; omega)]
          exact hnx14 _ _ _ _ (fun kk => by kernel_rfl) h
        · replace h := ifT h (beqT hb21)
          conv => lhs; whnf
          try (rw [hb21]; conv => lhs; whnf)
          try (rw [hb21]; conv => lhs; whnf)
          try (rw [hb20]; conv => lhs; whnf)
          try (rw [hb21]; conv => lhs; whnf)
          try (rw [hb20]; conv => lhs; whnf)
          cases hb22 : (decide (x15 < v13))
          · replace h := ifF h (decF hb22)
            conv => lhs; whnf
            rw [wrap_nat i12 (by have := hn_i12; omega)]
            exact hnx14 _ _ _ _ (fun kk => by kernel_rfl) h
          · replace h := ifT h (decT hb22)
            conv => lhs; whnf
            rw [wrap_nat i12 (by have := hn_i12; omega)]
            exact hnx14 _ _ _ _ (fun kk => by kernel_rfl) h
      · replace h := ifT h hb20
        conv => lhs; whnf
        try (rw [hb20]; conv => lhs; whnf)
        try (rw [hb20]; conv => lhs; whnf)
        try (rw [hb20]; conv => lhs; whnf)
        try (rw [hb20]; conv => lhs; whnf)
        try (rw [hb20]; conv => lhs; whnf)
        try (rw [hb20]; conv => lhs; whnf)
        try (rw [hb20]; conv => lhs; whnf)
        try (rw [hb20]; conv => lhs; whnf)
        try (rw [hb20]; conv => lhs; whnf)
        try (rw [hb20]; conv => lhs; whnf)
        try (rw [hb20]; conv => lhs; whnf)
        rw [wrap_nat i12 (by have := hn_i12; omega)]
        exact hnx14 _ _ _ _ (fun kk => by kernel_rfl) h
    · replace h := ifT h (decT hb16)
      conv => lhs; whnf
      try (rw [hb16]; conv => lhs; whnf)
      try (rw [hb16]; conv => lhs; whnf)
      try (rw [hb16]; conv => lhs; whnf)
      try (rw [hb16]; conv => lhs; whnf)
      try (rw [hb16]; conv => lhs; whnf)
      try (rw [hb16]; conv => lhs; whnf)
      try (rw [hb16]; conv => lhs; whnf)
      try (rw [hb16]; conv => lhs; whnf)
      try (rw [hb16]; conv => lhs; whnf)
      try (rw [hb16]; conv => lhs; whnf)
      rw [wrap_nat i12 (by have := hn_i12; omega)]
      exact hnx14 _ _ _ _ (fun kk => by kernel_rfl) h
  · clear h
    rintro next_nx14 v13 r h
    try dsimp only at h
    have hd_i12 : (decide ((a_1.length : Int) < (a_1.length : Int))) = false := decide_eq_false (by omega)
    conv => lhs; whnf
    rw [hd_i12]
    conv => lhs; whnf
    obtain rfl := Option.some.inj h
    show _ = _
    kernel_rfl

noncomputable def p_impl_PickFree (a_0 : List Int) (a_1 : List Int) (a_2 : Bool) : Option Int :=
  callK (p_impl_allWithin a_1 0 (IntKind.i64.wrap ((a_0.length : Int) - 1))) fun y1 =>
  if y1 = true then
    if a_2 = true then
      callK (p_impl_bestOf_impl_lessThan' a_0 a_1) fun y4 =>
      some y4
    else
      callK (p_impl_bestOf_impl_moreThan' a_0 a_1) fun y5 =>
      some y5
  else
    some (-1)

set_option maxHeartbeats 4000000 in
theorem L_impl_PickFree (a_0 : List Int) (a_1 : List Int) (a_2 : Bool) {r : Int} (h : p_impl_PickFree a_0 a_1 a_2 = some r) : callL E 51 [.d (.arr (a_0.map rI)), .d (.arr (a_1.map rI)), BO a_2] ([] : Fo) = some (IN r, ([] : Fo)) := by
  unfold p_impl_PickFree at h
  refine callW (fu := Try.f51) rfl rfl rfl NN ?_
  intro lp cl hlp hcl
  conv => lhs; whnf
  try rw [len_of (l := a_0) (r := rI)]
  obtain ⟨y1, h_y1, h⟩ := callK_inv h
  rw [cl_eq hcl (L_impl_allWithin a_1 0 (IntKind.i64.wrap ((a_0.length : Int) - 1)) h_y1)]
  rotate_left
  · show _ = _
    kernel_rfl
  · show _ = _
    kernel_rfl
  conv => lhs; whnf
  cases hb2 : y1
  · replace h := ifF h (booF hb2)
    conv => lhs; whnf
    obtain rfl := Option.some.inj h
    show _ = _
    kernel_rfl
  · replace h := ifT h hb2
    conv => lhs; whnf
    cases hb3 : a_2
    · replace h := ifF h (booF hb3)
      conv => lhs; whnf
      obtain ⟨y5, h_y5, h⟩ := callK_inv h
      rw [cl_eq hcl (L_impl_bestOf_impl_moreThan' a_0 a_1 h_y5)]
      rotate_left
      · show _ = _
        kernel_rfl
      · show _ = _
        kernel_rfl
      conv => lhs; whnf
      obtain rfl := Option.some.inj h
      show _ = _
      kernel_rfl
    · replace h := ifT h hb3
      conv => lhs; whnf
      obtain ⟨y4, h_y4, h⟩ := callK_inv h
      rw [cl_eq hcl (L_impl_bestOf_impl_lessThan' a_0 a_1 h_y4)]
      rotate_left
      · show _ = _
        kernel_rfl
      · show _ = _
        kernel_rfl
      conv => lhs; whnf
      obtain rfl := Option.some.inj h
      show _ = _
      kernel_rfl

noncomputable def p_impl_Wear_clear (a_0 : Int) (a_1 : Int) (a_2 : List Int) (a_3 : List Bool) (a_4 : List Int) : Option ((List Int) × (List Int)) :=
  getK a_2 a_0 fun x1 =>
  getK a_4 a_0 fun x2 =>
  some ((a_2.set (Int.toNat a_0) (IntKind.i64.wrap (x1 + 1))), (a_4.set (Int.toNat a_0) 0))

set_option maxHeartbeats 4000000 in
theorem L_impl_Wear_clear (a_0 : Int) (a_1 : Int) (a_2 : List Int) (a_3 : List Bool) (a_4 : List Int) {r : ((List Int) × (List Int))} (h : p_impl_Wear_clear a_0 a_1 a_2 a_3 a_4 = some r) : callL E 228 [.bp 0 0, IN a_0] ([some (.box [.sl 1, .sl 2, .sl 3, IN a_1]), some (.arr 2 1 (a_2.map rI)), some (.arr 4 1 (a_3.map rB)), some (.arr 2 1 (a_4.map rI))] : Fo) = some (.tup [], ([some (.box [.sl 1, .sl 2, .sl 3, IN a_1]), some (.arr 2 1 (r.1.map rI)), some (.arr 4 1 (a_3.map rB)), some (.arr 2 1 (r.2.map rI))] : Fo)) := by
  unfold p_impl_Wear_clear at h
  refine callW (fu := Try.f228) rfl rfl rfl NN ?_
  intro lp cl hlp hcl
  conv => lhs; whnf
  obtain ⟨x1, hq_x1, hx_x1', h⟩ := getK_inv h
  have hx_x1 := get_of (r := rI) hx_x1'
  try (rw [decide_eq_true hq_x1]; conv => lhs; whnf)
  rw [hx_x1]
  conv => lhs; whnf
  rw [hx_x1]
  conv => lhs; whnf
  try (rw [decide_eq_true hq_x1]; conv => lhs; whnf)
  rw [hx_x1]
  conv => lhs; whnf
  rw [hx_x1]
  conv => lhs; whnf
  first | (rw [map_set_of (r := rI) (l := a_2) (x := (IntKind.i64.wrap (x1 + 1))) ?hh]; case hh => exact rfl) | skip
  obtain ⟨x2, hq_x2, hx_x2', h⟩ := getK_inv h
  have hx_x2 := get_of (r := rI) hx_x2'
  try (rw [decide_eq_true hq_x2]; conv => lhs; whnf)
  rw [hx_x2]
  conv => lhs; whnf
  rw [hx_x2]
  conv => lhs; whnf
  first | (rw [map_set_of (r := rI) (l := a_4) (x := 0) ?hh]; case hh => exact rfl) | skip
  obtain rfl := Option.some.inj h
  show _ = _
  kernel_rfl

noncomputable def p_impl_Wear_move (a_0 : Int) (a_1 : List Int) (a_2 : List Bool) (a_3 : List Int) : Option (Int × (List Int) × (List Int)) :=
  callK (p_impl_PickStatic a_1 a_2 ([] : List Int)) fun y1 =>
  getK a_3 y1 fun x2 =>
  if ¬ x2 = 0 then
    callK (p_impl_Wear_free (⟨a_1, a_2, a_3, a_0⟩ : Wear)) fun y4 =>
    callK (p_impl_PickFree a_1 y4 false) fun y5 =>
    if y5 < 0 then
      some (4, a_1, a_3)
    else
      getK a_3 y5 fun x7 =>
      callK (p_impl_Wear_clear y1 a_0 a_1 a_2 (a_3.set (Int.toNat y5) x2)) fun y8 =>
      some (0, y8.1, y8.2)
  else
    callK (p_impl_Wear_clear y1 a_0 a_1 a_2 a_3) fun y9 =>
    some (0, y9.1, y9.2)

set_option maxHeartbeats 4000000 in
theorem L_impl_Wear_move (a_0 : Int) (a_1 : List Int) (a_2 : List Bool) (a_3 : List Int) {r : (Int × (List Int) × (List Int))} (h : p_impl_Wear_move a_0 a_1 a_2 a_3 = some r) : callL E 160 [.bp 0 0] ([some (.box [.sl 1, .sl 2, .sl 3, IN a_0]), some (.arr 2 1 (a_1.map rI)), some (.arr 4 1 (a_2.map rB)), some (.arr 2 1 (a_3.map rI))] : Fo) = some (IN r.1, ([some (.box [.sl 1, .sl 2, .sl 3, IN a_0]), some (.arr 2 1 (r.2.1.map rI)), some (.arr 4 1 (a_2.map rB)), some (.arr 2 1 (r.2.2.map rI))] : Fo)) := by
  unfold p_impl_Wear_move at h
  refine callW (fu := Try.f160) rfl rfl rfl NN ?_
  intro lp cl hlp hcl
  conv => lhs; whnf
  obtain ⟨y1, h_y1, h⟩ := callK_inv h
  rw [cl_eq hcl (L_impl_PickStatic a_1 a_2 ([] : List Int) h_y1)]
  rotate_left
  · show _ = _
    kernel_rfl
  · show _ = _
    kernel_rfl
  conv => lhs; whnf
  obtain ⟨x2, hq_x2, hx_x2', h⟩ := getK_inv h
  have hx_x2 := get_of (r := rI) hx_x2'
  try (rw [decide_eq_true hq_x2]; conv => lhs; whnf)
  rw [hx_x2]
  conv => lhs; whnf
  rw [hx_x2]
  conv => lhs; whnf
  cases hb3 : (x2 != 0)
  · replace h := ifF h ((fun h => not_not_intro (bneF h)) hb3)
    conv => lhs; whnf
    obtain ⟨y9, h_y9, h⟩ := callK_inv h
    rw [cl_eq hcl (L_impl_Wear_clear y1 a_0 a_1 a_2 a_3 h_y9)]
    rotate_left
    · show _ = _
      kernel_rfl
    · show _ = _
      kernel_rfl
    conv => lhs; whnf
    obtain rfl := Option.some.inj h
    show _ = _
    kernel_rfl
  · replace h := ifT h (bneT hb3)
    conv => lhs; whnf
    obtain ⟨y4, h_y4, h⟩ := callK_inv h
    rw [cl_eq hcl (L_impl_Wear_free (⟨a_1, a_2, a_3, a_0⟩ : Wear) h_y4)]
    rotate_left
    · show _ = _
      kernel_rfl
    · show _ = _
      kernel_rfl
    conv => lhs; whnf
    rw [scalEnd_map (f := rI) (fun _ => rfl)]
    conv => lhs; whnf
    obtain ⟨y5, h_y5, h⟩ := callK_inv h
    rw [cl_eq hcl (L_impl_PickFree a_1 y4 false h_y5)]
    rotate_left
    · show _ = _
      kernel_rfl
    · show _ = _
      kernel_rfl
    conv => lhs; whnf
    cases hb6 : (decide (y5 < 0))
    · replace h := ifF h (decF hb6)
      conv => lhs; whnf
      try (rw [decide_eq_true hq_x2]; conv => lhs; whnf)
      rw [hx_x2]
      conv => lhs; whnf
      rw [hx_x2]
      conv => lhs; whnf
      obtain ⟨x7, hq_x7, hx_x7', h⟩ := getK_inv h
      have hx_x7 := get_of (r := rI) hx_x7'
      try (rw [decide_eq_true hq_x7]; conv => lhs; whnf)
      rw [hx_x7]
      conv => lhs; whnf
      rw [hx_x7]
      conv => lhs; whnf
      first | (rw [map_set_of (r := rI) (l := a_3) (x := x2) ?hh]; case hh => exact rfl) | skip
      obtain ⟨y8, h_y8, h⟩ := callK_inv h
      rw [cl_eq hcl (L_impl_Wear_clear y1 a_0 a_1 a_2 (a_3.set (Int.toNat y5) x2) h_y8)]
      rotate_left
      · show _ = _
        kernel_rfl
      · show _ = _
        kernel_rfl
      conv => lhs; whnf
      obtain rfl := Option.some.inj h
      show _ = _
      kernel_rfl
    · replace h := ifT h (decT hb6)
      conv => lhs; whnf
      obtain rfl := Option.some.inj h
      show _ = _
      kernel_rfl

noncomputable def p_impl_LevelMove (a_0 : Wear) : Option (Wear × Int) :=
  callK (p_impl_ValidWear a_0) fun y1 =>
  if y1 = true then
    callK (p_impl_Wear_needs a_0) fun y3 =>
    if y3 = true then
      callK (p_impl_Wear_clone a_0) fun y5 =>
      callK (p_impl_Wear_move y5.1 y5.2.1 y5.2.2.1 y5.2.2.2) fun y6 =>
      if ¬ y6.1 = 0 then
        some ((⟨([] : List Int), ([] : List Bool), ([] : List Int), 0⟩ : Wear), y6.1)
      else
        some ((⟨y6.2.1, y5.2.2.1, y6.2.2, y5.1⟩ : Wear), 0)
    else
      some ((⟨([] : List Int), ([] : List Bool), ([] : List Int), 0⟩ : Wear), 5)
  else
    some ((⟨([] : List Int), ([] : List Bool), ([] : List Int), 0⟩ : Wear), 1)

set_option maxHeartbeats 4000000 in
theorem L_impl_LevelMove (a_0 : Wear) {r : (Wear × Int)} (h : p_impl_LevelMove a_0 = some r) : callL E 56 [.agg [.d (.arr (a_0.Erases.map rI)), .d (.arr (a_0.Bad.map rB)), .d (.arr (a_0.Content.map rI)), IN a_0.Bound]] ([] : Fo) = some (.tup [.agg [.d (.arr (r.1.Erases.map rI)), .d (.arr (r.1.Bad.map rB)), .d (.arr (r.1.Content.map rI)), IN r.1.Bound], IN r.2], ([] : Fo)) := by
  unfold p_impl_LevelMove at h
  refine callW (fu := Try.f56) rfl rfl rfl NN ?_
  intro lp cl hlp hcl
  conv => lhs; whnf
  obtain ⟨y1, h_y1, h⟩ := callK_inv h
  rw [cl_eq hcl (L_impl_ValidWear a_0 h_y1)]
  rotate_left
  · show _ = _
    kernel_rfl
  · show _ = _
    kernel_rfl
  conv => lhs; whnf
  cases hb2 : y1
  · replace h := ifF h (booF hb2)
    conv => lhs; whnf
    obtain rfl := Option.some.inj h
    show _ = _
    kernel_rfl
  · replace h := ifT h hb2
    conv => lhs; whnf
    obtain ⟨y3, h_y3, h⟩ := callK_inv h
    rw [cl_eq hcl (L_impl_Wear_needs a_0 h_y3)]
    rotate_left
    · show _ = _
      kernel_rfl
    · show _ = _
      kernel_rfl
    conv => lhs; whnf
    cases hb4 : y3
    · replace h := ifF h (booF hb4)
      conv => lhs; whnf
      obtain rfl := Option.some.inj h
      show _ = _
      kernel_rfl
    · replace h := ifT h hb4
      conv => lhs; whnf
      obtain ⟨y5, h_y5, h⟩ := callK_inv h
      rw [cl_eq hcl (L_impl_Wear_clone a_0 h_y5)]
      rotate_left
      · show _ = _
        kernel_rfl
      · show _ = _
        kernel_rfl
      conv => lhs; whnf
      obtain ⟨y6, h_y6, h⟩ := callK_inv h
      rw [cl_eq hcl (L_impl_Wear_move y5.1 y5.2.1 y5.2.2.1 y5.2.2.2 h_y6)]
      rotate_left
      · show _ = _
        kernel_rfl
      · show _ = _
        kernel_rfl
      conv => lhs; whnf
      cases hb7 : (y6.1 != 0)
      · replace h := ifF h ((fun h => not_not_intro (bneF h)) hb7)
        conv => lhs; whnf
        obtain rfl := Option.some.inj h
        show _ = _
        kernel_rfl
      · replace h := ifT h (bneT hb7)
        conv => lhs; whnf
        obtain rfl := Option.some.inj h
        show _ = _
        kernel_rfl

noncomputable def p_spec_ValidWear (a_0 : Wear) : Option Bool :=
  if (a_0.Erases.length : Int) < 1 then
    some false
  else
    if (a_0.Erases.length : Int) > 36 then
      some false
    else
      if ¬ (a_0.Bad.length : Int) = (a_0.Erases.length : Int) then
        some false
      else
        if ¬ (a_0.Content.length : Int) = (a_0.Erases.length : Int) then
          some false
        else
          if (inR a_0.Bound 1 100) = true then
            grd (a_0.Erases.length < 4611686018427387904) <|
            forK a_0.Erases (fun (i15 : Nat) x17 (_ : Unit) (nx16 : Unit → Option _) =>
              if (inR x17 0 1000) = true then
                getK a_0.Content (i15 : Int) fun x19 =>
                if (inR x19 0 2) = true then
                  getK a_0.Bad (i15 : Int) fun x21 =>
                  if x21 = true then
                    if ¬ x19 = 0 then
                      some false
                    else
                      nx16 ()
                  else
                    nx16 ()
                else
                  some false
              else
                some false) () (fun (_ : Unit) =>
              some true)
          else
            some false

set_option maxHeartbeats 4000000 in
theorem L_spec_ValidWear (a_0 : Wear) {r : Bool} (h : p_spec_ValidWear a_0 = some r) : callL E 48 [.agg [.d (.arr (a_0.Erases.map rI)), .d (.arr (a_0.Bad.map rB)), .d (.arr (a_0.Content.map rI)), IN a_0.Bound]] ([] : Fo) = some (BO r, ([] : Fo)) := by
  unfold p_spec_ValidWear at h
  refine callW (fu := Try.f48) rfl rfl rfl NN ?_
  intro lp cl hlp hcl
  conv => lhs; whnf
  try rw [len_of (l := a_0.Erases) (r := rI)]
  cases hb1 : (decide ((a_0.Erases.length : Int) < 1))
  · replace h := ifF h (decF hb1)
    conv => lhs; whnf
    try (rw [hb1]; conv => lhs; whnf)
    try (rw [hb1]; conv => lhs; whnf)
    cases hb2 : (decide ((a_0.Erases.length : Int) > 36))
    · replace h := ifF h (decF hb2)
      conv => lhs; whnf
      try (rw [hb2]; conv => lhs; whnf)
      try (rw [hb2]; conv => lhs; whnf)
      try rw [len_of (l := a_0.Bad) (r := rB)]
      try (rw [hb2]; conv => lhs; whnf)
      try (rw [hb2]; conv => lhs; whnf)
      try (rw [hb2]; conv => lhs; whnf)
      cases hb3 : ((a_0.Bad.length : Int) != (a_0.Erases.length : Int))
      · replace h := ifF h ((fun h => not_not_intro (bneF h)) hb3)
        conv => lhs; whnf
        try (rw [hb3]; conv => lhs; whnf)
        try (rw [hb3]; conv => lhs; whnf)
        try rw [len_of (l := a_0.Content) (r := rI)]
        try (rw [hb3]; conv => lhs; whnf)
        try (rw [hb3]; conv => lhs; whnf)
        try (rw [hb3]; conv => lhs; whnf)
        cases hb4 : ((a_0.Content.length : Int) != (a_0.Erases.length : Int))
        · replace h := ifF h ((fun h => not_not_intro (bneF h)) hb4)
          conv => lhs; whnf
          try (rw [hb4]; conv => lhs; whnf)
          try (rw [hb4]; conv => lhs; whnf)
          rw [cl_eq hcl (L_spec_l00In a_0.Bound 1 100 (pl_l00In a_0.Bound 1 100))]
          rotate_left
          · show _ = _
            kernel_rfl
          · show _ = _
            kernel_rfl
          conv => lhs; whnf
          try (rw [hb4]; conv => lhs; whnf)
          try (rw [hb4]; conv => lhs; whnf)
          cases hb5 : (inR a_0.Bound 1 100)
          · replace h := ifF h (booF hb5)
            conv => lhs; whnf
            obtain rfl := Option.some.inj h
            show _ = _
            kernel_rfl
          · replace h := ifT h hb5
            conv => lhs; whnf
            obtain ⟨hl_i15, h⟩ := grd_inv h
            refine loop_for hlp (l := a_0.Erases) hl_i15 (fun (i15 : Nat) (_ : Unit) => ([.dead, .bp 0 0, .dead, IN (a_0.Erases.length : Int), IN (i15 : Int)] ++ List.replicate 65 .dead : List V)) (fun (i15 : Nat) (_ : Unit) => ([some (.box [.d (.arr (a_0.Erases.map rI)), .d (.arr (a_0.Bad.map rB)), .d (.arr (a_0.Content.map rI)), IN a_0.Bound])] : Fo)) (fun (r : Bool) => ((BO r : V), ([] : Fo))) ?_ ?_ () _ (fun kk => by kernel_rfl) h
            · clear h
              rintro next_nx16 nx16 i15 hi_i15 hnx16 ⟨⟩ r h
              try dsimp only at h
              have hn_i15 : i15 < 4611686018427387904 := by omega
              have hx_x17 := get_map rI a_0.Erases i15 hi_i15
              generalize a_0.Erases[i15] = x17 at h hx_x17
              have hd_i15 : (decide ((i15 : Int) < (a_0.Erases.length : Int))) = true := decide_eq_true (by omega)
              conv => lhs; whnf
              rw [hd_i15]
              conv => lhs; whnf
              try (rw [decide_eq_true hq_x17]; conv => lhs; whnf)
              rw [hx_x17]
              conv => lhs; whnf
              rw [hx_x17]
              conv => lhs; whnf
              rw [cl_eq hcl (L_spec_l00In x17 0 1000 (pl_l00In x17 0 1000))]
              rotate_left
              · show _ = _
                kernel_rfl
              · show _ = _
                kernel_rfl
              conv => lhs; whnf
              cases hb18 : (inR x17 0 1000)
              · replace h := ifF h (booF hb18)
                conv => lhs; whnf
                try (rw [hb18]; conv => lhs; whnf)
                try (rw [hb18]; conv => lhs; whnf)
                try (rw [hb18]; conv => lhs; whnf)
                try (rw [hb18]; conv => lhs; whnf)
                try (rw [hb18]; conv => lhs; whnf)
                try (rw [hb18]; conv => lhs; whnf)
                try (rw [hb18]; conv => lhs; whnf)
                obtain rfl := Option.some.inj h
                show _ = _
                kernel_rfl
              · replace h := ifT h hb18
                conv => lhs; whnf
                try (rw [hb18]; conv => lhs; whnf)
                try (rw [hb18]; conv => lhs; whnf)
                try (rw [hb18]; conv => lhs; whnf)
                obtain ⟨x19, hq_x19, hx_x19', h⟩ := getK_inv h
                have hx_x19 := get_of (r := rI) hx_x19'
                try (rw [decide_eq_true hq_x19]; conv => lhs; whnf)
                rw [hx_x19]
                conv => lhs; whnf
                try (rw [hb18]; conv => lhs; whnf)
                rw [hx_x19]
                conv => lhs; whnf
                try (rw [hb18]; conv => lhs; whnf)
                rw [cl_eq hcl (L_spec_l00In x19 0 2 (pl_l00In x19 0 2))]
                rotate_left
                · show _ = _
                  kernel_rfl
                · show _ = _
                  kernel_rfl
                conv => lhs; whnf
                try (rw [hb18]; conv => lhs; whnf)
                try (rw [hb18]; conv => lhs; whnf)
                cases hb20 : (inR x19 0 2)
                · replace h := ifF h (booF hb20)
                  conv => lhs; whnf
                  try (rw [hb20]; conv => lhs; whnf)
                  try (rw [hb20]; conv => lhs; whnf)
                  try (rw [hb20]; conv => lhs; whnf)
                  try (rw [hb20]; conv => lhs; whnf)
                  try (rw [hb20]; conv => lhs; whnf)
                  try (rw [hb20]; conv => lhs; whnf)
                  try (rw [hb20]; conv => lhs; whnf)
                  obtain rfl := Option.some.inj h
                  show _ = _
                  kernel_rfl
                · replace h := ifT h hb20
                  conv => lhs; whnf
                  try (rw [hb20]; conv => lhs; whnf)
                  try (rw [hb20]; conv => lhs; whnf)
                  try (rw [hb20]; conv => lhs; whnf)
                  obtain ⟨x21, hq_x21, hx_x21', h⟩ := getK_inv h
                  have hx_x21 := get_of (r := rB) hx_x21'
                  try (rw [decide_eq_true hq_x21]; conv => lhs; whnf)
                  rw [hx_x21]
                  conv => lhs; whnf
                  try (rw [hb20]; conv => lhs; whnf)
                  rw [hx_x21]
                  conv => lhs; whnf
                  try (rw [hb20]; conv => lhs; whnf)
                  cases hb22 : x21
                  · replace h := ifF h (booF hb22)
                    conv => lhs; whnf
                    try (rw [hb22]; conv => lhs; whnf)
                    try (rw [hb22]; conv => lhs; whnf)
                    try (rw [hb22]; conv => lhs; whnf)
                    try (rw [hb22]; conv => lhs; whnf)
                    try (rw [hb22]; conv => lhs; whnf)
                    try (rw [hb20]; conv => lhs; whnf)
                    try (rw [hb22]; conv => lhs; whnf)
                    try (rw [hb20]; conv => lhs; whnf)
                    rw [wrap_nat i15 (by have := hn_i15; omega)]
                    exact hnx16 _ _ _ _ (fun kk => by kernel_rfl) h
                  · replace h := ifT h hb22
                    conv => lhs; whnf
                    try (rw [hb22]; conv => lhs; whnf)
                    try (rw [hb22]; conv => lhs; whnf)
                    try (rw [hb22]; conv => lhs; whnf)
                    try (rw [decide_eq_true hq_x19]; conv => lhs; whnf)
                    rw [hx_x19]
                    conv => lhs; whnf
                    try (rw [hb22]; conv => lhs; whnf)
                    rw [hx_x19]
                    conv => lhs; whnf
                    try (rw [hb22]; conv => lhs; whnf)
                    try (rw [hb20]; conv => lhs; whnf)
                    try (rw [hb22]; conv => lhs; whnf)
                    try (rw [hb20]; conv => lhs; whnf)
                    cases hb23 : (x19 != 0)
                    · replace h := ifF h ((fun h => not_not_intro (bneF h)) hb23)
                      conv => lhs; whnf
                      rw [wrap_nat i15 (by have := hn_i15; omega)]
                      exact hnx16 _ _ _ _ (fun kk => by kernel_rfl) h
                    · replace h := ifT h (bneT hb23)
                      conv => lhs; whnf
                      obtain rfl := Option.some.inj h
                      show _ = _
                      kernel_rfl
            · clear h
              rintro next_nx16 ⟨⟩ r h
              try dsimp only at h
              have hd_i15 : (decide ((a_0.Erases.length : Int) < (a_0.Erases.length : Int))) = false := decide_eq_false (by omega)
              conv => lhs; whnf
              rw [hd_i15]
              conv => lhs; whnf
              obtain rfl := Option.some.inj h
              show _ = _
              kernel_rfl
        · replace h := ifT h (bneT hb4)
          conv => lhs; whnf
          try (rw [hb4]; conv => lhs; whnf)
          try (rw [hb4]; conv => lhs; whnf)
          try (rw [hb4]; conv => lhs; whnf)
          try (rw [hb4]; conv => lhs; whnf)
          obtain rfl := Option.some.inj h
          show _ = _
          kernel_rfl
      · replace h := ifT h (bneT hb3)
        conv => lhs; whnf
        try (rw [hb3]; conv => lhs; whnf)
        try (rw [hb3]; conv => lhs; whnf)
        try (rw [hb3]; conv => lhs; whnf)
        try (rw [hb3]; conv => lhs; whnf)
        try (rw [hb3]; conv => lhs; whnf)
        obtain rfl := Option.some.inj h
        show _ = _
        kernel_rfl
    · replace h := ifT h (decT hb2)
      conv => lhs; whnf
      try (rw [hb2]; conv => lhs; whnf)
      try (rw [hb2]; conv => lhs; whnf)
      try (rw [hb2]; conv => lhs; whnf)
      try (rw [hb2]; conv => lhs; whnf)
      try (rw [hb2]; conv => lhs; whnf)
      obtain rfl := Option.some.inj h
      show _ = _
      kernel_rfl
  · replace h := ifT h (decT hb1)
    conv => lhs; whnf
    try (rw [hb1]; conv => lhs; whnf)
    try (rw [hb1]; conv => lhs; whnf)
    obtain rfl := Option.some.inj h
    show _ = _
    kernel_rfl

noncomputable def p_spec_l12Counted (a_0 : List Int) : Option Bool :=
  grd (a_0.length < 4611686018427387904) <|
  forK a_0 (fun (i5 : Nat) x7 (_ : Unit) (nx6 : Unit → Option _) =>
    if (inR x7 0 1000) = true then
      nx6 ()
    else
      some false) () (fun (_ : Unit) =>
    some true)

set_option maxHeartbeats 4000000 in
theorem L_spec_l12Counted (a_0 : List Int) {r : Bool} (h : p_spec_l12Counted a_0 = some r) : callL E 269 [.d (.arr (a_0.map rI))] ([] : Fo) = some (BO r, ([] : Fo)) := by
  unfold p_spec_l12Counted at h
  refine callW (fu := Try.f269) rfl rfl rfl NN ?_
  intro lp cl hlp hcl
  conv => lhs; whnf
  obtain ⟨hl_i5, h⟩ := grd_inv h
  refine loop_for hlp (l := a_0) hl_i5 (fun (i5 : Nat) (_ : Unit) => ([.d (.arr (a_0.map rI)), .dead, .dead, IN (i5 : Int)] ++ List.replicate 12 .dead : List V)) (fun (i5 : Nat) (_ : Unit) => ([] : Fo)) (fun (r : Bool) => ((BO r : V), ([] : Fo))) ?_ ?_ () _ (fun kk => by kernel_rfl) h
  · clear h
    rintro next_nx6 nx6 i5 hi_i5 hnx6 ⟨⟩ r h
    try dsimp only at h
    have hn_i5 : i5 < 4611686018427387904 := by omega
    have hx_x7 := get_map rI a_0 i5 hi_i5
    generalize a_0[i5] = x7 at h hx_x7
    have hd_i5 : (decide ((i5 : Int) < (a_0.length : Int))) = true := decide_eq_true (by omega)
    conv => lhs; whnf
    try rw [len_of (l := a_0) (r := rI)]
    rw [hd_i5]
    conv => lhs; whnf
    try (rw [decide_eq_true hq_x7]; conv => lhs; whnf)
    rw [hx_x7]
    conv => lhs; whnf
    rw [hx_x7]
    conv => lhs; whnf
    rw [cl_eq hcl (L_spec_l00In x7 0 1000 (pl_l00In x7 0 1000))]
    rotate_left
    · show _ = _
      kernel_rfl
    · show _ = _
      kernel_rfl
    conv => lhs; whnf
    cases hb8 : (inR x7 0 1000)
    · replace h := ifF h (booF hb8)
      conv => lhs; whnf
      obtain rfl := Option.some.inj h
      show _ = _
      kernel_rfl
    · replace h := ifT h hb8
      conv => lhs; whnf
      rw [wrap_nat i5 (by have := hn_i5; omega)]
      exact hnx6 _ _ _ _ (fun kk => by kernel_rfl) h
  · clear h
    rintro next_nx6 ⟨⟩ r h
    try dsimp only at h
    have hd_i5 : (decide ((a_0.length : Int) < (a_0.length : Int))) = false := decide_eq_false (by omega)
    conv => lhs; whnf
    try rw [len_of (l := a_0) (r := rI)]
    rw [hd_i5]
    conv => lhs; whnf
    obtain rfl := Option.some.inj h
    show _ = _
    kernel_rfl

noncomputable def p_spec_l12Good (a_0 : List Bool) (a_1 : Int) : Option Bool :=
  if a_1 ≥ (a_0.length : Int) then
    some true
  else
    getK a_0 a_1 fun x2 =>
    some (!x2)

set_option maxHeartbeats 4000000 in
theorem L_spec_l12Good (a_0 : List Bool) (a_1 : Int) {r : Bool} (h : p_spec_l12Good a_0 a_1 = some r) : callL E 157 [.d (.arr (a_0.map rB)), IN a_1] ([] : Fo) = some (BO r, ([] : Fo)) := by
  unfold p_spec_l12Good at h
  refine callW (fu := Try.f157) rfl rfl rfl NN ?_
  intro lp cl hlp hcl
  conv => lhs; whnf
  try rw [len_of (l := a_0) (r := rB)]
  cases hb1 : (decide (a_1 ≥ (a_0.length : Int)))
  · replace h := ifF h (decF hb1)
    conv => lhs; whnf
    try (rw [hb1]; conv => lhs; whnf)
    try (rw [hb1]; conv => lhs; whnf)
    obtain ⟨x2, hq_x2, hx_x2', h⟩ := getK_inv h
    have hx_x2 := get_of (r := rB) hx_x2'
    try (rw [decide_eq_true hq_x2]; conv => lhs; whnf)
    rw [hx_x2]
    conv => lhs; whnf
    try (rw [hb1]; conv => lhs; whnf)
    rw [hx_x2]
    conv => lhs; whnf
    try (rw [hb1]; conv => lhs; whnf)
    try (rw [hb1]; conv => lhs; whnf)
    obtain rfl := Option.some.inj h
    show _ = _
    kernel_rfl
  · replace h := ifT h (decT hb1)
    conv => lhs; whnf
    try (rw [hb1]; conv => lhs; whnf)
    try (rw [hb1]; conv => lhs; whnf)
    try (rw [hb1]; conv => lhs; whnf)
    try (rw [hb1]; conv => lhs; whnf)
    try (rw [hb1]; conv => lhs; whnf)
    obtain rfl := Option.some.inj h
    show _ = _
    kernel_rfl

noncomputable def p_spec_l12Extremes (a_0 : List Int) (a_1 : List Bool) : Option (Int × Int × Bool) :=
  grd (a_0.length < 4611686018427387904) <|
  forK a_0 (fun (i14 : Nat) x19 ((v15, v16, v17) : (Int × Int × Bool)) (nx18 : (Int × Int × Bool) → Option _) =>
    callK (p_spec_l12Good a_1 (i14 : Int)) fun y20 =>
    if y20 = true then
      if v17 = true then
        if x19 < v15 then
          if x19 > v16 then
            nx18 (x19, x19, true)
          else
            nx18 (x19, v16, true)
        else
          if x19 > v16 then
            nx18 (v15, x19, true)
          else
            nx18 (v15, v16, true)
      else
        nx18 (x19, x19, true)
    else
      nx18 (v15, v16, v17)) (0, 0, false) (fun ((v15, v16, v17) : (Int × Int × Bool)) =>
    some (v15, v16, v17))

set_option maxHeartbeats 4000000 in
theorem L_spec_l12Extremes (a_0 : List Int) (a_1 : List Bool) {r : (Int × Int × Bool)} (h : p_spec_l12Extremes a_0 a_1 = some r) : callL E 270 [.d (.arr (a_0.map rI)), .d (.arr (a_1.map rB))] ([] : Fo) = some (.tup [IN r.1, IN r.2.1, BO r.2.2], ([] : Fo)) := by
  unfold p_spec_l12Extremes at h
  refine callW (fu := Try.f270) rfl rfl rfl NN ?_
  intro lp cl hlp hcl
  conv => lhs; whnf
  obtain ⟨hl_i14, h⟩ := grd_inv h
  refine loop_for hlp (l := a_0) hl_i14 (fun (i14 : Nat) ((v15, v16, v17) : (Int × Int × Bool)) => ([.d (.arr (a_0.map rI)), .d (.arr (a_1.map rB)), .dead, .dead, .dead, .dead, .dead, IN v15, IN v16, BO v17, IN (i14 : Int)] ++ List.replicate 41 .dead : List V)) (fun (i14 : Nat) ((v15, v16, v17) : (Int × Int × Bool)) => ([] : Fo)) (fun (r : (Int × Int × Bool)) => ((.tup [IN r.1, IN r.2.1, BO r.2.2] : V), ([] : Fo))) ?_ ?_ (0, 0, false) _ (fun kk => by kernel_rfl) h
  · clear h
    rintro next_nx18 nx18 i14 hi_i14 hnx18 ⟨v15, v16, v17⟩ r h
    try dsimp only at h
    have hn_i14 : i14 < 4611686018427387904 := by omega
    have hx_x19 := get_map rI a_0 i14 hi_i14
    generalize a_0[i14] = x19 at h hx_x19
    have hd_i14 : (decide ((i14 : Int) < (a_0.length : Int))) = true := decide_eq_true (by omega)
    conv => lhs; whnf
    try rw [len_of (l := a_0) (r := rI)]
    rw [hd_i14]
    conv => lhs; whnf
    obtain ⟨y20, h_y20, h⟩ := callK_inv h
    rw [cl_eq hcl (L_spec_l12Good a_1 (i14 : Int) h_y20)]
    rotate_left
    · show _ = _
      kernel_rfl
    · show _ = _
      kernel_rfl
    conv => lhs; whnf
    cases hb21 : y20
    · replace h := ifF h (booF hb21)
      conv => lhs; whnf
      rw [wrap_nat i14 (by have := hn_i14; omega)]
      exact hnx18 _ _ _ _ (fun kk => by kernel_rfl) h
    · replace h := ifT h hb21
      conv => lhs; whnf
      cases hb22 : v17
      · replace h := ifF h (booF hb22)
        conv => lhs; whnf
        try (rw [hb22]; conv => lhs; whnf)
        try (rw [hb22]; conv => lhs; whnf)
        try (rw [hb22]; conv => lhs; whnf)
        try (rw [hb22]; conv => lhs; whnf)
        try (rw [hb22]; conv => lhs; whnf)
        try (rw [hb22]; conv => lhs; whnf)
        try (rw [decide_eq_true hq_x19]; conv => lhs; whnf)
        rw [hx_x19]
        conv => lhs; whnf
        rw [hx_x19]
        conv => lhs; whnf
        try (rw [hb22]; conv => lhs; whnf)
        try (rw [hb22]; conv => lhs; whnf)
        try (rw [hb22]; conv => lhs; whnf)
        try (rw [hb22]; conv => lhs; whnf)
        try (rw [hb22]; conv => lhs; whnf)
        try (rw [hb22]; conv => lhs; whnf)
        try (rw [hb22]; conv => lhs; whnf)
        try (rw [decide_eq_true hq_x19]; conv => lhs; whnf)
        rw [hx_x19]
        conv => lhs; whnf
        rw [hx_x19]
        conv => lhs; whnf
        rw [wrap_nat i14 (by have := hn_i14; omega)]
        exact hnx18 _ _ _ _ (fun kk => by kernel_rfl) h
      · replace h := ifT h hb22
        conv => lhs; whnf
        try (rw [hb22]; conv => lhs; whnf)
        try (rw [hb22]; conv => lhs; whnf)
        try (rw [decide_eq_true hq_x19]; conv => lhs; whnf)
        rw [hx_x19]
        conv => lhs; whnf
        try (rw [hb22]; conv => lhs; whnf)
        rw [hx_x19]
        conv => lhs; whnf
        try (rw [hb22]; conv => lhs; whnf)
        try (rw [hb22]; conv => lhs; whnf)
        try (rw [hb22]; conv => lhs; whnf)
        cases hb23 : (decide (x19 < v15))
        · replace h := ifF h (decF hb23)
          conv => lhs; whnf
          try (rw [hb22]; conv => lhs; whnf)
          try (rw [hb22]; conv => lhs; whnf)
          try (rw [hb22]; conv => lhs; whnf)
          try (rw [decide_eq_true hq_x19]; conv => lhs; whnf)
          rw [hx_x19]
          conv => lhs; whnf
          try (rw [hb22]; conv => lhs; whnf)
          rw [hx_x19]
          conv => lhs; whnf
          try (rw [hb22]; conv => lhs; whnf)
          try (rw [hb22]; conv => lhs; whnf)
          try (rw [hb22]; conv => lhs; whnf)
          cases hb25 : (decide (x19 > v16))
          · replace h := ifF h (decF hb25)
            conv => lhs; whnf
            rw [wrap_nat i14 (by have := hn_i14; omega)]
            exact hnx18 _ _ _ _ (fun kk => by kernel_rfl) h
          · replace h := ifT h (decT hb25)
            conv => lhs; whnf
            try (rw [decide_eq_true hq_x19]; conv => lhs; whnf)
            rw [hx_x19]
            conv => lhs; whnf
            rw [hx_x19]
            conv => lhs; whnf
            rw [wrap_nat i14 (by have := hn_i14; omega)]
            exact hnx18 _ _ _ _ (fun kk => by kernel_rfl) h
        · replace h := ifT h (decT hb23)
          conv => lhs; whnf
          try (rw [decide_eq_true hq_x19]; conv => lhs; whnf)
          rw [hx_x19]
          conv => lhs; whnf
          rw [hx_x19]
          conv => lhs; whnf
          try (rw [hb22]; conv => lhs; whnf)
          try (rw [hb22]; conv => lhs; whnf)
          try (rw [hb22]; conv => lhs; whnf)
          try (rw [decide_eq_true hq_x19]; conv => lhs; whnf)
          rw [hx_x19]
          conv => lhs; whnf
          try (rw [hb22]; conv => lhs; whnf)
          rw [hx_x19]
          conv => lhs; whnf
          try (rw [hb22]; conv => lhs; whnf)
          try (rw [hb22]; conv => lhs; whnf)
          try (rw [hb22]; conv => lhs; whnf)
          cases hb24 : (decide (x19 > v16))
          · replace h := ifF h (decF hb24)
            conv => lhs; whnf
            rw [wrap_nat i14 (by have := hn_i14; omega)]
            exact hnx18 _ _ _ _ (fun kk => by kernel_rfl) h
          · replace h := ifT h (decT hb24)
            conv => lhs; whnf
            try (rw [decide_eq_true hq_x19]; conv => lhs; whnf)
            rw [hx_x19]
            conv => lhs; whnf
            rw [hx_x19]
            conv => lhs; whnf
            rw [wrap_nat i14 (by have := hn_i14; omega)]
            exact hnx18 _ _ _ _ (fun kk => by kernel_rfl) h
  · clear h
    rintro next_nx18 ⟨v15, v16, v17⟩ r h
    try dsimp only at h
    have hd_i14 : (decide ((a_0.length : Int) < (a_0.length : Int))) = false := decide_eq_false (by omega)
    conv => lhs; whnf
    try rw [len_of (l := a_0) (r := rI)]
    rw [hd_i14]
    conv => lhs; whnf
    obtain rfl := Option.some.inj h
    show _ = _
    kernel_rfl

noncomputable def p_spec_WearGap (a_0 : List Int) (a_1 : List Bool) : Option Int :=
  callK (p_spec_l12Counted a_0) fun y1 =>
  if y1 = true then
    callK (p_spec_l12Extremes a_0 a_1) fun y3 =>
    some (IntKind.i64.wrap (y3.2.1 - y3.1))
  else
    some 0

set_option maxHeartbeats 4000000 in
theorem L_spec_WearGap (a_0 : List Int) (a_1 : List Bool) {r : Int} (h : p_spec_WearGap a_0 a_1 = some r) : callL E 229 [.d (.arr (a_0.map rI)), .d (.arr (a_1.map rB))] ([] : Fo) = some (IN r, ([] : Fo)) := by
  unfold p_spec_WearGap at h
  refine callW (fu := Try.f229) rfl rfl rfl NN ?_
  intro lp cl hlp hcl
  conv => lhs; whnf
  obtain ⟨y1, h_y1, h⟩ := callK_inv h
  rw [cl_eq hcl (L_spec_l12Counted a_0 h_y1)]
  rotate_left
  · show _ = _
    kernel_rfl
  · show _ = _
    kernel_rfl
  conv => lhs; whnf
  cases hb2 : y1
  · replace h := ifF h (booF hb2)
    conv => lhs; whnf
    obtain rfl := Option.some.inj h
    show _ = _
    kernel_rfl
  · replace h := ifT h hb2
    conv => lhs; whnf
    obtain ⟨y3, h_y3, h⟩ := callK_inv h
    rw [cl_eq hcl (L_spec_l12Extremes a_0 a_1 h_y3)]
    rotate_left
    · show _ = _
      kernel_rfl
    · show _ = _
      kernel_rfl
    conv => lhs; whnf
    obtain rfl := Option.some.inj h
    show _ = _
    kernel_rfl

noncomputable def p_spec_NeedsLevelling (a_0 : List Int) (a_1 : List Bool) (a_2 : Int) : Option Bool :=
  callK (p_spec_WearGap a_0 a_1) fun y1 =>
  some (decide (y1 > a_2))

set_option maxHeartbeats 4000000 in
theorem L_spec_NeedsLevelling (a_0 : List Int) (a_1 : List Bool) (a_2 : Int) {r : Bool} (h : p_spec_NeedsLevelling a_0 a_1 a_2 = some r) : callL E 161 [.d (.arr (a_0.map rI)), .d (.arr (a_1.map rB)), IN a_2] ([] : Fo) = some (BO r, ([] : Fo)) := by
  unfold p_spec_NeedsLevelling at h
  refine callW (fu := Try.f161) rfl rfl rfl NN ?_
  intro lp cl hlp hcl
  conv => lhs; whnf
  obtain ⟨y1, h_y1, h⟩ := callK_inv h
  rw [cl_eq hcl (L_spec_WearGap a_0 a_1 h_y1)]
  rotate_left
  · show _ = _
    kernel_rfl
  · show _ = _
    kernel_rfl
  conv => lhs; whnf
  obtain rfl := Option.some.inj h
  show _ = _
  kernel_rfl

noncomputable def p_spec_l00Own (a_0 : List Int) : Option Unit :=
  grd (appOk (0 + a_0.length) 8 = true) <|
  some ()

set_option maxHeartbeats 4000000 in
theorem L_spec_l00Own (a_0 : List Int) {r : Unit} (h : p_spec_l00Own a_0 = some r) : callL E 219 [.d (.arr (a_0.map rI))] ([] : Fo) = some (.sl 0, ([some (.arr 2 1 (a_0.map rI))] : Fo)) := by
  unfold p_spec_l00Own at h
  refine callW (fu := Try.f219) rfl rfl rfl NN ?_
  intro lp cl hlp hcl
  conv => lhs; whnf
  obtain ⟨hg1, h⟩ := grd_inv h
  rw [app_eq hg1 ?h1 ?h2]
  case h1 => first | exact rfl | (simp only [List.length_map, List.length_cons, List.length_nil]; done) | (rw [List.length_map]; rfl)
  case h2 => exact rfl
  conv => lhs; whnf
  rw [allLen_map rI _ rI_len]
  conv => lhs; whnf
  first | (rw [nil_app_of (r := rI) (m := a_0) ?hh]; case hh => exact rfl) | skip
  obtain rfl := Option.some.inj h
  show _ = _
  kernel_rfl

noncomputable def p_spec_l12Own (a_0 : Wear) : Option (Int × (List Int) × (List Bool) × (List Int)) :=
  callK (p_spec_l00Own a_0.Erases) fun y1 =>
  grd (appOk a_0.Bad.length 1 = true) <|
  callK (p_spec_l00Own a_0.Content) fun y2 =>
  some (a_0.Bound, a_0.Erases, a_0.Bad, a_0.Content)

set_option maxHeartbeats 4000000 in
theorem L_spec_l12Own (a_0 : Wear) {r : (Int × (List Int) × (List Bool) × (List Int))} (h : p_spec_l12Own a_0 = some r) : callL E 145 [.agg [.d (.arr (a_0.Erases.map rI)), .d (.arr (a_0.Bad.map rB)), .d (.arr (a_0.Content.map rI)), IN a_0.Bound]] ([] : Fo) = some (.agg [.sl 0, .sl 1, .sl 2, IN r.1], ([some (.arr 2 1 (r.2.1.map rI)), some (.arr 4 1 (r.2.2.1.map rB)), some (.arr 2 1 (r.2.2.2.map rI))] : Fo)) := by
  unfold p_spec_l12Own at h
  refine callW (fu := Try.f145) rfl rfl rfl NN ?_
  intro lp cl hlp hcl
  conv => lhs; whnf
  obtain ⟨y1, h_y1, h⟩ := callK_inv h
  rw [cl_eq hcl (L_spec_l00Own a_0.Erases h_y1)]
  rotate_left
  · show _ = _
    kernel_rfl
  · show _ = _
    kernel_rfl
  conv => lhs; whnf
  obtain ⟨hg3, h⟩ := grd_inv h
  rw [app_eq hg3 ?h1 ?h2]
  case h1 => first | exact rfl | (rw [List.length_map]; done) | (rw [List.length_map]; rfl)
  case h2 => exact rfl
  conv => lhs; whnf
  rw [allLen_map rB _ rB_len]
  conv => lhs; whnf
  obtain ⟨y2, h_y2, h⟩ := callK_inv h
  rw [cl_eq hcl (L_spec_l00Own a_0.Content h_y2)]
  rotate_left
  · show _ = _
    kernel_rfl
  · show _ = _
    kernel_rfl
  conv => lhs; whnf
  obtain rfl := Option.some.inj h
  show _ = _
  kernel_rfl

noncomputable def p_spec_l00Has (a_0 : List Int) (a_1 : Int) : Option Bool :=
  grd (a_0.length < 4611686018427387904) <|
  forK a_0 (fun (i5 : Nat) x7 (_ : Unit) (nx6 : Unit → Option _) =>
    if x7 = a_1 then
      some true
    else
      nx6 ()) () (fun (_ : Unit) =>
    some false)

set_option maxHeartbeats 4000000 in
theorem L_spec_l00Has (a_0 : List Int) (a_1 : Int) {r : Bool} (h : p_spec_l00Has a_0 a_1 = some r) : callL E 158 [.d (.arr (a_0.map rI)), IN a_1] ([] : Fo) = some (BO r, ([] : Fo)) := by
  unfold p_spec_l00Has at h
  refine callW (fu := Try.f158) rfl rfl rfl NN ?_
  intro lp cl hlp hcl
  conv => lhs; whnf
  obtain ⟨hl_i5, h⟩ := grd_inv h
  refine loop_for hlp (l := a_0) hl_i5 (fun (i5 : Nat) (_ : Unit) => ([.d (.arr (a_0.map rI)), IN a_1, .dead, .dead, .dead, IN (i5 : Int)] ++ List.replicate 12 .dead : List V)) (fun (i5 : Nat) (_ : Unit) => ([] : Fo)) (fun (r : Bool) => ((BO r : V), ([] : Fo))) ?_ ?_ () _ (fun kk => by kernel_rfl) h
  · clear h
    rintro next_nx6 nx6 i5 hi_i5 hnx6 ⟨⟩ r h
    try dsimp only at h
    have hn_i5 : i5 < 4611686018427387904 := by omega
    have hx_x7 := get_map rI a_0 i5 hi_i5
    generalize a_0[i5] = x7 at h hx_x7
    have hd_i5 : (decide ((i5 : Int) < (a_0.length : Int))) = true := decide_eq_true (by omega)
    conv => lhs; whnf
    try rw [len_of (l := a_0) (r := rI)]
    rw [hd_i5]
    conv => lhs; whnf
    try (rw [decide_eq_true hq_x7]; conv => lhs; whnf)
    rw [hx_x7]
    conv => lhs; whnf
    rw [hx_x7]
    conv => lhs; whnf
    cases hb8 : (x7 == a_1)
    · replace h := ifF h (beqF hb8)
      conv => lhs; whnf
      rw [wrap_nat i5 (by have := hn_i5; omega)]
      exact hnx6 _ _ _ _ (fun kk => by kernel_rfl) h
    · replace h := ifT h (beqT hb8)
      conv => lhs; whnf
      obtain rfl := Option.some.inj h
      show _ = _
      kernel_rfl
  · clear h
    rintro next_nx6 ⟨⟩ r h
    try dsimp only at h
    have hd_i5 : (decide ((a_0.length : Int) < (a_0.length : Int))) = false := decide_eq_false (by omega)
    conv => lhs; whnf
    try rw [len_of (l := a_0) (r := rI)]
    rw [hd_i5]
    conv => lhs; whnf
    obtain rfl := Option.some.inj h
    show _ = _
    kernel_rfl

noncomputable def p_spec_PickStatic (a_0 : List Int) (a_1 : List Bool) (a_2 : List Int) : Option Int :=
  grd (a_0.length < 4611686018427387904) <|
  forK a_0 (fun (i12 : Nat) x15 (v13 : Int) (nx14 : Int → Option _) =>
    callK (p_spec_l12Good a_1 (i12 : Int)) fun y16 =>
    if y16 = true then
      callK (p_spec_l00Has a_2 (i12 : Int)) fun y18 =>
      if y18 = true then
        nx14 v13
      else
        if v13 < 0 then
          nx14 (i12 : Int)
        else
          getK a_0 v13 fun x21 =>
          if x15 < x21 then
            nx14 (i12 : Int)
          else
            nx14 v13
    else
      nx14 v13) (-1) (fun (v13 : Int) =>
    some v13)

set_option maxHeartbeats 4000000 in
theorem L_spec_PickStatic (a_0 : List Int) (a_1 : List Bool) (a_2 : List Int) {r : Int} (h : p_spec_PickStatic a_0 a_1 a_2 = some r) : callL E 54 [.d (.arr (a_0.map rI)), .d (.arr (a_1.map rB)), .d (.arr (a_2.map rI))] ([] : Fo) = some (IN r, ([] : Fo)) := by
  unfold p_spec_PickStatic at h
  refine callW (fu := Try.f54) rfl rfl rfl NN ?_
  intro lp cl hlp hcl
  conv => lhs; whnf
  obtain ⟨hl_i12, h⟩ := grd_inv h
  refine loop_for hlp (l := a_0) hl_i12 (fun (i12 : Nat) (v13 : Int) => ([.d (.arr (a_0.map rI)), .d (.arr (a_1.map rB)), .d (.arr (a_2.map rI)), .dead, .dead, .dead, .dead, IN v13, IN (i12 : Int)] ++ List.replicate 32 .dead : List V)) (fun (i12 : Nat) (v13 : Int) => ([] : Fo)) (fun (r : Int) => ((IN r : V), ([] : Fo))) ?_ ?_ (-1) _ (fun kk => by kernel_rfl) h
  · clear h
    rintro next_nx14 nx14 i12 hi_i12 hnx14 v13 r h
    try dsimp only at h
    have hn_i12 : i12 < 4611686018427387904 := by omega
    have hx_x15 := get_map rI a_0 i12 hi_i12
    generalize a_0[i12] = x15 at h hx_x15
    have hd_i12 : (decide ((i12 : Int) < (a_0.length : Int))) = true := decide_eq_true (by omega)
    conv => lhs; whnf
    try rw [len_of (l := a_0) (r := rI)]
    rw [hd_i12]
    conv => lhs; whnf
    obtain ⟨y16, h_y16, h⟩ := callK_inv h
    rw [cl_eq hcl (L_spec_l12Good a_1 (i12 : Int) h_y16)]
    rotate_left
    · show _ = _
      kernel_rfl
    · show _ = _
      kernel_rfl
    conv => lhs; whnf
    cases hb17 : y16
    · replace h := ifF h (booF hb17)
      conv => lhs; whnf
      try (rw [hb17]; conv => lhs; whnf)
      try (rw [hb17]; conv => lhs; whnf)
      try (rw [hb17]; conv => lhs; whnf)
      try (rw [hb17]; conv => lhs; whnf)
      rw [wrap_nat i12 (by have := hn_i12; omega)]
      exact hnx14 _ _ _ _ (fun kk => by kernel_rfl) h
    · replace h := ifT h hb17
      conv => lhs; whnf
      try (rw [hb17]; conv => lhs; whnf)
      try (rw [hb17]; conv => lhs; whnf)
      obtain ⟨y18, h_y18, h⟩ := callK_inv h
      rw [cl_eq hcl (L_spec_l00Has a_2 (i12 : Int) h_y18)]
      rotate_left
      · show _ = _
        kernel_rfl
      · show _ = _
        kernel_rfl
      conv => lhs; whnf
      try (rw [hb17]; conv => lhs; whnf)
      try (rw [hb17]; conv => lhs; whnf)
      cases hb19 : y18
      · replace h := ifF h (booF hb19)
        conv => lhs; whnf
        try (rw [hb19]; conv => lhs; whnf)
        try (rw [hb19]; conv => lhs; whnf)
        cases hb20 : (decide (v13 < 0))
        · replace h := ifF h (decF hb20)
          conv => lhs; whnf
          try (rw [hb20]; conv => lhs; whnf)
          try (rw [hb20]; conv => lhs; whnf)
          try (rw [decide_eq_true hq_x15]; conv => lhs; whnf)
          rw [hx_x15]
          conv => lhs; whnf
          try (rw [hb20]; conv => lhs; whnf)
          rw [hx_x15]
          conv => lhs; whnf
          try (rw [hb20]; conv => lhs; whnf)
          try (rw [hb20]; conv => lhs; whnf)
          try (rw [hb20]; conv => lhs; whnf)
          obtain ⟨x21, hq_x21, hx_x21', h⟩ := getK_inv h
          have hx_x21 := get_of (r := rI) hx_x21'
          try (rw [decide_eq_true hq_x21]; conv => lhs; whnf)
          rw [hx_x21]
          conv => lhs; whnf
          try (rw [hb20]; conv => lhs; whnf)
          rw [hx_x21]
          conv => lhs; whnf
          try (rw [hb20]; conv => lhs; whnf)
          try (rw [hb19]; conv => lhs; whnf)
          try (rw [hb20]; conv => lhs; whnf)
          try (rw [hb19]; conv => lhs; whnf)
          cases hb22 : (decide (x15 < x21))
          · replace h := ifF h (decF hb22)
            conv => lhs; whnf
            rw [wrap_nat i12 (by have := hn_i12; omega)]
            exact hnx14 _ _ _ _ (fun kk => by kernel_rfl) h
          · replace h := ifT h (decT hb22)
            conv => lhs; whnf
            rw [wrap_nat i12 (by have := hn_i12; omega)]
            exact hnx14 _ _ _ _ (fun kk => by kernel_rfl) h
        · replace h := ifT h (decT hb20)
          conv => lhs; whnf
          try (rw [hb20]; conv => lhs; whnf)
          try (rw [hb20]; conv => lhs; whnf)
          try (rw [hb20]; conv => lhs; whnf)
          try (rw [hb20]; conv => lhs; whnf)
          try (rw [hb20]; conv => lhs; whnf)
          try (rw [hb20]; conv => lhs; whnf)
          try (rw [hb20]; conv => lhs; whnf)
          try (rw [hb20]; conv => lhs; whnf)
          try (rw [hb19]; conv => lhs; whnf)
          try (rw [hb20]; conv => lhs; whnf)
          try (rw [hb19]; conv => lhs; whnf)
          rw [wrap_nat i12 (by have := hn_i12; omega)]
          exact hnx14 _ _ _ _ (fun kk => by kernel_rfl) h
      · replace h := ifT h hb19
        conv => lhs; whnf
        try (rw [hb19]; conv => lhs; whnf)
        try (rw [hb19]; conv => lhs; whnf)
        try (rw [hb19]; conv => lhs; whnf)
        try (rw [hb19]; conv => lhs; whnf)
        rw [wrap_nat i12 (by have := hn_i12; omega)]
        exact hnx14 _ _ _ _ (fun kk => by kernel_rfl) h
  · clear h
    rintro next_nx14 v13 r h
    try dsimp only at h
    have hd_i12 : (decide ((a_0.length : Int) < (a_0.length : Int))) = false := decide_eq_false (by omega)
    conv => lhs; whnf
    try rw [len_of (l := a_0) (r := rI)]
    rw [hd_i12]
    conv => lhs; whnf
    obtain rfl := Option.some.inj h
    show _ = _
    kernel_rfl

noncomputable def p_spec_l12Free (a_0 : Wear) : Option (List Int) :=
  grd (a_0.Erases.length < 4611686018427387904) <|
  forK a_0.Erases (fun (i8 : Nat) x11 (v9 : List Int) (nx10 : (List Int) → Option _) =>
    getK a_0.Bad (i8 : Int) fun x12 =>
    if x12 = true then
      nx10 v9
    else
      getK a_0.Content (i8 : Int) fun x14 =>
      if x14 = 0 then
        grd (appOk (v9.length + 1) 8 = true) <|
        nx10 (v9 ++ ([(i8 : Int)] : List Int))
      else
        nx10 v9) ([] : List Int) (fun (v9 : List Int) =>
    some v9)

set_option maxHeartbeats 4000000 in
theorem L_spec_l12Free (a_0 : Wear) {r : (List Int)} (h : p_spec_l12Free a_0 = some r) : callL E 144 [.agg [.d (.arr (a_0.Erases.map rI)), .d (.arr (a_0.Bad.map rB)), .d (.arr (a_0.Content.map rI)), IN a_0.Bound]] ([] : Fo) = some (.d (.arr (r.map rI)), ([] : Fo)) := by
  unfold p_spec_l12Free at h
  refine callW (fu := Try.f144) rfl rfl rfl NN ?_
  intro lp cl hlp hcl
  conv => lhs; whnf
  obtain ⟨hl_i8, h⟩ := grd_inv h
  refine loop_for hlp (l := a_0.Erases) hl_i8 (fun (i8 : Nat) (v9 : List Int) => ([.dead, .bp 0 0, .dead, .sl 1, IN (i8 : Int)] ++ List.replicate 27 .dead : List V)) (fun (i8 : Nat) (v9 : List Int) => ([some (.box [.d (.arr (a_0.Erases.map rI)), .d (.arr (a_0.Bad.map rB)), .d (.arr (a_0.Content.map rI)), IN a_0.Bound]), some (.arr 2 1 (v9.map rI))] : Fo)) (fun (r : (List Int)) => ((.d (.arr (r.map rI)) : V), ([] : Fo))) ?_ ?_ ([] : List Int) _ (fun kk => by kernel_rfl) h
  · clear h
    rintro next_nx10 nx10 i8 hi_i8 hnx10 v9 r h
    try dsimp only at h
    have hn_i8 : i8 < 4611686018427387904 := by omega
    have hx_x11 := get_map rI a_0.Erases i8 hi_i8
    generalize a_0.Erases[i8] = x11 at h hx_x11
    have hd_i8 : (decide ((i8 : Int) < (a_0.Erases.length : Int))) = true := decide_eq_true (by omega)
    conv => lhs; whnf
    try rw [len_of (l := a_0.Erases) (r := rI)]
    rw [hd_i8]
    conv => lhs; whnf
    obtain ⟨x12, hq_x12, hx_x12', h⟩ := getK_inv h
    have hx_x12 := get_of (r := rB) hx_x12'
    try (rw [decide_eq_true hq_x12]; conv => lhs; whnf)
    rw [hx_x12]
    conv => lhs; whnf
    rw [hx_x12]
    conv => lhs; whnf
    cases hb13 : x12
    · replace h := ifF h (booF hb13)
      conv => lhs; whnf
      try (rw [hb13]; conv => lhs; whnf)
      try (rw [hb13]; conv => lhs; whnf)
      try (rw [hb13]; conv => lhs; whnf)
      obtain ⟨x14, hq_x14, hx_x14', h⟩ := getK_inv h
      have hx_x14 := get_of (r := rI) hx_x14'
      try (rw [decide_eq_true hq_x14]; conv => lhs; whnf)
      rw [hx_x14]
      conv => lhs; whnf
      try (rw [hb13]; conv => lhs; whnf)
      rw [hx_x14]
      conv => lhs; whnf
      try (rw [hb13]; conv => lhs; whnf)
      try (rw [hb13]; conv => lhs; whnf)
      cases hb15 : (x14 == 0)
      · replace h := ifF h (beqF hb15)
        conv => lhs; whnf
        rw [wrap_nat i8 (by have := hn_i8; omega)]
        exact hnx10 _ _ _ _ (fun kk => by kernel_rfl) h
      · replace h := ifT h (beqT hb15)
        conv => lhs; whnf
        obtain ⟨hg16, h⟩ := grd_inv h
        rw [app_eq hg16 ?h1 ?h2]
        case h1 => first | exact rfl | (simp only [List.length_map, List.length_cons, List.length_nil]; done) | (rw [List.length_map]; rfl)
        case h2 => exact rfl
        conv => lhs; whnf
        first | (rw [map_app_of (r := rI) (l := v9) (m := ([(i8 : Int)] : List Int)) ?hh]; case hh => exact rfl) | skip
        rw [wrap_nat i8 (by have := hn_i8; omega)]
        exact hnx10 _ _ _ _ (fun kk => by kernel_rfl) h
    · replace h := ifT h hb13
      conv => lhs; whnf
      try (rw [hb13]; conv => lhs; whnf)
      try (rw [hb13]; conv => lhs; whnf)
      try (rw [hb13]; conv => lhs; whnf)
      try (rw [hb13]; conv => lhs; whnf)
      try (rw [hb13]; conv => lhs; whnf)
      try (rw [hb13]; conv => lhs; whnf)
      rw [wrap_nat i8 (by have := hn_i8; omega)]
      exact hnx10 _ _ _ _ (fun kk => by kernel_rfl) h
  · clear h
    rintro next_nx10 v9 r h
    try dsimp only at h
    have hd_i8 : (decide ((a_0.Erases.length : Int) < (a_0.Erases.length : Int))) = false := decide_eq_false (by omega)
    conv => lhs; whnf
    try rw [len_of (l := a_0.Erases) (r := rI)]
    rw [hd_i8]
    conv => lhs; whnf
    obtain rfl := Option.some.inj h
    show _ = _
    kernel_rfl

noncomputable def p_spec_PickFree (a_0 : List Int) (a_1 : List Int) (a_2 : Bool) : Option Int :=
  grd (a_1.length < 4611686018427387904) <|
  forK a_1 (fun (i17 : Nat) x21 ((v18, v19) : (Bool × Int)) (nx20 : (Bool × Int) → Option _) =>
    if (inR x21 0 (IntKind.i64.wrap ((a_0.length : Int) - 1))) = true then
      if v19 < 0 then
        nx20 (v18, x21)
      else
        getK a_0 x21 fun x24 =>
        getK a_0 v19 fun x25 =>
        if v18 = true then
          if x24 < x25 then
            nx20 (true, x21)
          else
            if x24 = x25 then
              if x21 < v19 then
                nx20 (true, x21)
              else
                nx20 (true, v19)
            else
              nx20 (true, v19)
        else
          if x24 > x25 then
            nx20 (false, x21)
          else
            if x24 = x25 then
              if x21 < v19 then
                nx20 (false, x21)
              else
                nx20 (false, v19)
            else
              nx20 (false, v19)
    else
      some (-1)) (a_2, (-1)) (fun ((v18, v19) : (Bool × Int)) =>
    some v19)

set_option maxHeartbeats 4000000 in
theorem L_spec_PickFree (a_0 : List Int) (a_1 : List Int) (a_2 : Bool) {r : Int} (h : p_spec_PickFree a_0 a_1 a_2 = some r) : callL E 52 [.d (.arr (a_0.map rI)), .d (.arr (a_1.map rI)), BO a_2] ([] : Fo) = some (IN r, ([] : Fo)) := by
  unfold p_spec_PickFree at h
  refine callW (fu := Try.f52) rfl rfl rfl NN ?_
  intro lp cl hlp hcl
  conv => lhs; whnf
  obtain ⟨hl_i17, h⟩ := grd_inv h
  refine loop_for hlp (l := a_1) hl_i17 (fun (i17 : Nat) ((v18, v19) : (Bool × Int)) => ([.d (.arr (a_0.map rI)), .d (.arr (a_1.map rI)), BO v18, .dead, .dead, .dead, .dead, IN v19, IN (i17 : Int)] ++ List.replicate 60 .dead : List V)) (fun (i17 : Nat) ((v18, v19) : (Bool × Int)) => ([] : Fo)) (fun (r : Int) => ((IN r : V), ([] : Fo))) ?_ ?_ (a_2, (-1)) _ (fun kk => by kernel_rfl) h
  · clear h
    rintro next_nx20 nx20 i17 hi_i17 hnx20 ⟨v18, v19⟩ r h
    try dsimp only at h
    have hn_i17 : i17 < 4611686018427387904 := by omega
    have hx_x21 := get_map rI a_1 i17 hi_i17
    generalize a_1[i17] = x21 at h hx_x21
    have hd_i17 : (decide ((i17 : Int) < (a_1.length : Int))) = true := decide_eq_true (by omega)
    conv => lhs; whnf
    try rw [len_of (l := a_1) (r := rI)]
    rw [hd_i17]
    conv => lhs; whnf
    try (rw [decide_eq_true hq_x21]; conv => lhs; whnf)
    rw [hx_x21]
    conv => lhs; whnf
    rw [hx_x21]
    conv => lhs; whnf
    try rw [len_of (l := a_0) (r := rI)]
    rw [cl_eq hcl (L_spec_l00In x21 0 (IntKind.i64.wrap ((a_0.length : Int) - 1)) (pl_l00In x21 0 (IntKind.i64.wrap ((a_0.length : Int) - 1))))]
    rotate_left
    · show _ = _
      kernel_rfl
    · show _ = _
      kernel_rfl
    conv => lhs; whnf
    cases hb22 : (inR x21 0 (IntKind.i64.wrap ((a_0.length : Int) - 1)))
    · replace h := ifF h (booF hb22)
      conv => lhs; whnf
      obtain rfl := Option.some.inj h
      show _ = _
      kernel_rfl
    · replace h := ifT h hb22
      conv => lhs; whnf
      cases hb23 : (decide (v19 < 0))
      · replace h := ifF h (decF hb23)
        conv => lhs; whnf
        obtain ⟨x24, hq_x24, hx_x24', h⟩ := getK_inv h
        have hx_x24 := get_of (r := rI) hx_x24'
        try (rw [decide_eq_true hq_x24]; conv => lhs; whnf)
        rw [hx_x24]
        conv => lhs; whnf
        rw [hx_x24]
        conv => lhs; whnf
        obtain ⟨x25, hq_x25, hx_x25', h⟩ := getK_inv h
        have hx_x25 := get_of (r := rI) hx_x25'
        try (rw [decide_eq_true hq_x25]; conv => lhs; whnf)
        rw [hx_x25]
        conv => lhs; whnf
        rw [hx_x25]
        conv => lhs; whnf
        cases hb26 : v18
        · replace h := ifF h (booF hb26)
          conv => lhs; whnf
          try (rw [decide_eq_true hq_x24]; conv => lhs; whnf)
          rw [hx_x24]
          conv => lhs; whnf
          rw [hx_x24]
          conv => lhs; whnf
          try (rw [decide_eq_true hq_x25]; conv => lhs; whnf)
          rw [hx_x25]
          conv => lhs; whnf
          rw [hx_x25]
          conv => lhs; whnf
          cases hb30 : (decide (x24 > x25))
          · replace h := ifF h (decF hb30)
            conv => lhs; whnf
            try (rw [hb30]; conv => lhs; whnf)
            try (rw [hb30]; conv => lhs; whnf)
            try (rw [decide_eq_true hq_x24]; conv => lhs; whnf)
            rw [hx_x24]
            conv => lhs; whnf
            try (rw [hb30]; conv => lhs; whnf)
            rw [hx_x24]
            conv => lhs; whnf
            try (rw [hb30]; conv => lhs; whnf)
            try (rw [hb30]; conv => lhs; whnf)
            try (rw [hb30]; conv => lhs; whnf)
            try (rw [decide_eq_true hq_x25]; conv => lhs; whnf)
            rw [hx_x25]
            conv => lhs; whnf
            try (rw [hb30]; conv => lhs; whnf)
            rw [hx_x25]
            conv => lhs; whnf
            try (rw [hb30]; conv => lhs; whnf)
            try (rw [hb30]; conv => lhs; whnf)
            cases hb31 : (x24 == x25)
            · replace h := ifF h (beqF hb31)
              conv => lhs; whnf
              try (rw [hb31]; conv => lhs; whnf)
              try (rw [hb31]; conv => lhs; whnf)
              try (rw [hb30]; conv => lhs; whnf)
              try (rw [hb31]; conv => lhs; whnf)
              try (rw [hb30]; conv => lhs; whnf)
              rw [wrap_nat i17 (by have := hn_i17; omega)]
              exact hnx20 _ _ _ _ (fun kk => by kernel_rfl) h
            · replace h := ifT h (beqT hb31)
              conv => lhs; whnf
              try (rw [hb31]; conv => lhs; whnf)
              try (rw [hb31]; conv => lhs; whnf)
              try (rw [hb30]; conv => lhs; whnf)
              try (rw [hb31]; conv => lhs; whnf)
              try (rw [hb30]; conv => lhs; whnf)
              cases hb32 : (decide (x21 < v19))
              · replace h := ifF h (decF hb32)
                conv => lhs; whnf
                rw [wrap_nat i17 (by have := hn_i17; omega)]
                exact hnx20 _ _ _ _ (fun kk => by kernel_rfl) h
              · replace h := ifT h (decT hb32)
                conv => lhs; whnf
                rw [wrap_nat i17 (by have := hn_i17; omega)]
                exact hnx20 _ _ _ _ (fun kk => by kernel_rfl) h
          · replace h := ifT h (decT hb30)
            conv => lhs; whnf
            try (rw [hb30]; conv => lhs; whnf)
            try (rw [hb30]; conv => lhs; whnf)
            try (rw [hb30]; conv => lhs; whnf)
            try (rw [hb30]; conv => lhs; whnf)
            try (rw [hb30]; conv => lhs; whnf)
            try (rw [hb30]; conv => lhs; whnf)
            try (rw [hb30]; conv => lhs; whnf)
            try (rw [hb30]; conv => lhs; whnf)
            try (rw [hb30]; conv => lhs; whnf)
            try (rw [hb30]; conv => lhs; whnf)
            try (rw [hb30]; conv => lhs; whnf)
            rw [wrap_nat i17 (by have := hn_i17; omega)]
            exact hnx20 _ _ _ _ (fun kk => by kernel_rfl) h
        · replace h := ifT h hb26
          conv => lhs; whnf
          cases hb27 : (decide (x24 < x25))
          · replace h := ifF h (decF hb27)
            conv => lhs; whnf
            try (rw [hb27]; conv => lhs; whnf)
            try (rw [hb27]; conv => lhs; whnf)
            try (rw [decide_eq_true hq_x24]; conv => lhs; whnf)
            rw [hx_x24]
            conv => lhs; whnf
            try (rw [hb27]; conv => lhs; whnf)
            rw [hx_x24]
            conv => lhs; whnf
            try (rw [hb27]; conv => lhs; whnf)
            try (rw [hb27]; conv => lhs; whnf)
            try (rw [hb27]; conv => lhs; whnf)
            try (rw [decide_eq_true hq_x25]; conv => lhs; whnf)
            rw [hx_x25]
            conv => lhs; whnf
            try (rw [hb27]; conv => lhs; whnf)
            rw [hx_x25]
            conv => lhs; whnf
            try (rw [hb27]; conv => lhs; whnf)
            try (rw [hb27]; conv => lhs; whnf)
            cases hb28 : (x24 == x25)
            · replace h := ifF h (beqF hb28)
              conv => lhs; whnf
              try (rw [hb28]; conv => lhs; whnf)
              try (rw [hb28]; conv => lhs; whnf)
              try (rw [hb27]; conv => lhs; whnf)
              try (rw [hb28]; conv => lhs; whnf)
              try (rw [hb27]; conv => lhs; whnf)
              rw [wrap_nat i17 (by have := hn_i17; omega)]
              exact hnx20 _ _ _ _ (fun kk => by kernel_rfl) h
            · replace h := ifT h (beqT hb28)
              conv => lhs; whnf
              try (rw [hb28]; conv => lhs; whnf)
              try (rw [hb28]; conv => lhs; whnf)
              try (rw [hb27]; conv => lhs; whnf)
              try (rw [hb28]; conv => lhs; whnf)
              try (rw [hb27]; conv => lhs; whnf)
              cases hb29 : (decide (x21 < v19))
              · replace h := ifF h (decF hb29)
                conv => lhs; whnf
                rw [wrap_nat i17 (by have := hn_i17; omega)]
                exact hnx20 _ _ _ _ (fun kk => by kernel_rfl) h
              · replace h := ifT h (decT hb29)
                conv => lhs; whnf
                rw [wrap_nat i17 (by have := hn_i17; omega)]
                exact hnx20 _ _ _ _ (fun kk => by kernel_rfl) h
          · replace h := ifT h (decT hb27)
            conv => lhs; whnf
            try (rw [hb27]; conv => lhs; whnf)
            try (rw [hb27]; conv => lhs; whnf)
            try (rw [hb27]; conv => lhs; whnf)
            try (rw [hb27]; conv => lhs; whnf)
            try (rw [hb27]; conv => lhs; whnf)
            try (rw [hb27]; conv => lhs; whnf)
            try (rw [hb27]; conv => lhs; whnf)
            try (rw [hb27]; conv => lhs; whnf)
            try (rw [hb27]; conv => lhs; whnf)
            try (rw [hb27]; conv => lhs; whnf)
            try (rw [hb27]; conv => lhs; whnf)
            rw [wrap_nat i17 (by have := hn_i17; omega)]
            exact hnx20 _ _ _ _ (fun kk => by kernel_rfl) h
      · replace h := ifT h (decT hb23)
        conv => lhs; whnf
        rw [wrap_nat i17 (by have := hn_i17; omega)]
        exact hnx20 _ _ _ _ (fun kk => by kernel_rfl) h
  · clear h
    rintro next_nx20 ⟨v18, v19⟩ r h
    try dsimp only at h
    have hd_i17 : (decide ((a_1.length : Int) < (a_1.length : Int))) = false := decide_eq_false (by omega)
    conv => lhs; whnf
    try rw [len_of (l := a_1) (r := rI)]
    rw [hd_i17]
    conv => lhs; whnf
    obtain rfl := Option.some.inj h
    show _ = _
    kernel_rfl

noncomputable def p_spec_l12Erase (a_0 : Int) (a_1 : Int) (a_2 : List Int) (a_3 : List Bool) (a_4 : List Int) : Option ((List Int) × (List Int)) :=
  getK a_2 a_1 fun x1 =>
  getK a_4 a_1 fun x2 =>
  some ((a_2.set (Int.toNat a_1) (IntKind.i64.wrap (x1 + 1))), (a_4.set (Int.toNat a_1) 0))

set_option maxHeartbeats 4000000 in
theorem L_spec_l12Erase (a_0 : Int) (a_1 : Int) (a_2 : List Int) (a_3 : List Bool) (a_4 : List Int) {r : ((List Int) × (List Int))} (h : p_spec_l12Erase a_0 a_1 a_2 a_3 a_4 = some r) : callL E 162 [.agg [.sl 0, .sl 1, .sl 2, IN a_0], IN a_1] ([some (.arr 2 1 (a_2.map rI)), some (.arr 4 1 (a_3.map rB)), some (.arr 2 1 (a_4.map rI))] : Fo) = some (.agg [.sl 0, .sl 1, .sl 2, IN a_0], ([some (.arr 2 1 (r.1.map rI)), some (.arr 4 1 (a_3.map rB)), some (.arr 2 1 (r.2.map rI))] : Fo)) := by
  unfold p_spec_l12Erase at h
  refine callW (fu := Try.f162) rfl rfl rfl NN ?_
  intro lp cl hlp hcl
  conv => lhs; whnf
  obtain ⟨x1, hq_x1, hx_x1', h⟩ := getK_inv h
  have hx_x1 := get_of (r := rI) hx_x1'
  try (rw [decide_eq_true hq_x1]; conv => lhs; whnf)
  rw [hx_x1]
  conv => lhs; whnf
  rw [hx_x1]
  conv => lhs; whnf
  try (rw [decide_eq_true hq_x1]; conv => lhs; whnf)
  rw [hx_x1]
  conv => lhs; whnf
  rw [hx_x1]
  conv => lhs; whnf
  first | (rw [map_set_of (r := rI) (l := a_2) (x := (IntKind.i64.wrap (x1 + 1))) ?hh]; case hh => exact rfl) | skip
  obtain ⟨x2, hq_x2, hx_x2', h⟩ := getK_inv h
  have hx_x2 := get_of (r := rI) hx_x2'
  try (rw [decide_eq_true hq_x2]; conv => lhs; whnf)
  rw [hx_x2]
  conv => lhs; whnf
  rw [hx_x2]
  conv => lhs; whnf
  first | (rw [map_set_of (r := rI) (l := a_4) (x := 0) ?hh]; case hh => exact rfl) | skip
  obtain rfl := Option.some.inj h
  show _ = _
  kernel_rfl

noncomputable def p_spec_LevelMove (a_0 : Wear) : Option (Wear × Int) :=
  callK (p_spec_ValidWear a_0) fun y1 =>
  if y1 = true then
    callK (p_spec_NeedsLevelling a_0.Erases a_0.Bad a_0.Bound) fun y3 =>
    if y3 = true then
      callK (p_spec_l12Own a_0) fun y5 =>
      callK (p_spec_PickStatic a_0.Erases a_0.Bad ([] : List Int)) fun y6 =>
      getK a_0.Content y6 fun x7 =>
      if ¬ x7 = 0 then
        callK (p_spec_l12Free a_0) fun y9 =>
        callK (p_spec_PickFree a_0.Erases y9 false) fun y10 =>
        if y10 < 0 then
          some ((⟨([] : List Int), ([] : List Bool), ([] : List Int), 0⟩ : Wear), 4)
        else
          getK y5.2.2.2 y10 fun x12 =>
          callK (p_spec_l12Erase y5.1 y6 y5.2.1 y5.2.2.1 (y5.2.2.2.set (Int.toNat y10) x7)) fun y13 =>
          some ((⟨y13.1, y5.2.2.1, y13.2, y5.1⟩ : Wear), 0)
      else
        callK (p_spec_l12Erase y5.1 y6 y5.2.1 y5.2.2.1 y5.2.2.2) fun y14 =>
        some ((⟨y14.1, y5.2.2.1, y14.2, y5.1⟩ : Wear), 0)
    else
      some ((⟨([] : List Int), ([] : List Bool), ([] : List Int), 0⟩ : Wear), 5)
  else
    some ((⟨([] : List Int), ([] : List Bool), ([] : List Int), 0⟩ : Wear), 1)

set_option maxHeartbeats 4000000 in
theorem L_spec_LevelMove (a_0 : Wear) {r : (Wear × Int)} (h : p_spec_LevelMove a_0 = some r) : callL E 57 [.agg [.d (.arr (a_0.Erases.map rI)), .d (.arr (a_0.Bad.map rB)), .d (.arr (a_0.Content.map rI)), IN a_0.Bound]] ([] : Fo) = some (.tup [.agg [.d (.arr (r.1.Erases.map rI)), .d (.arr (r.1.Bad.map rB)), .d (.arr (r.1.Content.map rI)), IN r.1.Bound], IN r.2], ([] : Fo)) := by
  unfold p_spec_LevelMove at h
  refine callW (fu := Try.f57) rfl rfl rfl NN ?_
  intro lp cl hlp hcl
  conv => lhs; whnf
  obtain ⟨y1, h_y1, h⟩ := callK_inv h
  rw [cl_eq hcl (L_spec_ValidWear a_0 h_y1)]
  rotate_left
  · show _ = _
    kernel_rfl
  · show _ = _
    kernel_rfl
  conv => lhs; whnf
  cases hb2 : y1
  · replace h := ifF h (booF hb2)
    conv => lhs; whnf
    obtain rfl := Option.some.inj h
    show _ = _
    kernel_rfl
  · replace h := ifT h hb2
    try rw [hb2] at h
    conv => lhs; whnf
    obtain ⟨y3, h_y3, h⟩ := callK_inv h
    rw [cl_eq hcl (L_spec_NeedsLevelling a_0.Erases a_0.Bad a_0.Bound h_y3)]
    rotate_left
    · show _ = _
      kernel_rfl
    · show _ = _
      kernel_rfl
    conv => lhs; whnf
    cases hb4 : y3
    · replace h := ifF h (booF hb4)
      conv => lhs; whnf
      obtain rfl := Option.some.inj h
      show _ = _
      kernel_rfl
    · replace h := ifT h hb4
      conv => lhs; whnf
      obtain ⟨y5, h_y5, h⟩ := callK_inv h
      rw [cl_eq hcl (L_spec_l12Own a_0 h_y5)]
      rotate_left
      · show _ = _
        kernel_rfl
      · show _ = _
        kernel_rfl
      conv => lhs; whnf
      obtain ⟨y6, h_y6, h⟩ := callK_inv h
      rw [cl_eq hcl (L_spec_PickStatic a_0.Erases a_0.Bad ([] : List Int) h_y6)]
      rotate_left
      · show _ = _
        kernel_rfl
      · show _ = _
        kernel_rfl
      conv => lhs; whnf
      obtain ⟨x7, hq_x7, hx_x7', h⟩ := getK_inv h
      have hx_x7 := get_of (r := rI) hx_x7'
      try (rw [decide_eq_true hq_x7]; conv => lhs; whnf)
      rw [hx_x7]
      conv => lhs; whnf
      rw [hx_x7]
      conv => lhs; whnf
      cases hb8 : (x7 != 0)
      · replace h := ifF h ((fun h => not_not_intro (bneF h)) hb8)
        conv => lhs; whnf
        obtain ⟨y14, h_y14, h⟩ := callK_inv h
        rw [cl_eq hcl (L_spec_l12Erase y5.1 y6 y5.2.1 y5.2.2.1 y5.2.2.2 h_y14)]
        rotate_left
        · show _ = _
          kernel_rfl
        · show _ = _
          kernel_rfl
        conv => lhs; whnf
        obtain rfl := Option.some.inj h
        show _ = _
        kernel_rfl
      · replace h := ifT h (bneT hb8)
        conv => lhs; whnf
        obtain ⟨y9, h_y9, h⟩ := callK_inv h
        rw [cl_eq hcl (L_spec_l12Free a_0 h_y9)]
        rotate_left
        · show _ = _
          kernel_rfl
        · show _ = _
          kernel_rfl
        conv => lhs; whnf
        obtain ⟨y10, h_y10, h⟩ := callK_inv h
        rw [cl_eq hcl (L_spec_PickFree a_0.Erases y9 false h_y10)]
        rotate_left
        · show _ = _
          kernel_rfl
        · show _ = _
          kernel_rfl
        conv => lhs; whnf
        cases hb11 : (decide (y10 < 0))
        · replace h := ifF h (decF hb11)
          conv => lhs; whnf
          try (rw [decide_eq_true hq_x7]; conv => lhs; whnf)
          rw [hx_x7]
          conv => lhs; whnf
          rw [hx_x7]
          conv => lhs; whnf
          obtain ⟨x12, hq_x12, hx_x12', h⟩ := getK_inv h
          have hx_x12 := get_of (r := rI) hx_x12'
          try (rw [decide_eq_true hq_x12]; conv => lhs; whnf)
          rw [hx_x12]
          conv => lhs; whnf
          rw [hx_x12]
          conv => lhs; whnf
          first | (rw [map_set_of (r := rI) (l := y5.2.2.2) (x := x7) ?hh]; case hh => exact rfl) | skip
          obtain ⟨y13, h_y13, h⟩ := callK_inv h
          rw [cl_eq hcl (L_spec_l12Erase y5.1 y6 y5.2.1 y5.2.2.1 (y5.2.2.2.set (Int.toNat y10) x7) h_y13)]
          rotate_left
          · show _ = _
            kernel_rfl
          · show _ = _
            kernel_rfl
          conv => lhs; whnf
          obtain rfl := Option.some.inj h
          show _ = _
          kernel_rfl
        · replace h := ifT h (decT hb11)
          conv => lhs; whnf
          obtain rfl := Option.some.inj h
          show _ = _
          kernel_rfl

noncomputable def p_laws_w5Ints (a_0 : List Int) (a_1 : List Int) : Option Bool :=
  if ¬ (a_0.length : Int) = (a_1.length : Int) then
    some false
  else
    grd (a_0.length < 4611686018427387904) <|
    forK a_0 (fun (i7 : Nat) x9 (_ : Unit) (nx8 : Unit → Option _) =>
      getK a_1 (i7 : Int) fun x10 =>
      if ¬ x9 = x10 then
        some false
      else
        nx8 ()) () (fun (_ : Unit) =>
      some true)

set_option maxHeartbeats 4000000 in
theorem L_laws_w5Ints (a_0 : List Int) (a_1 : List Int) {r : Bool} (h : p_laws_w5Ints a_0 a_1 = some r) : callL E 60 [.d (.arr (a_0.map rI)), .d (.arr (a_1.map rI))] ([] : Fo) = some (BO r, ([] : Fo)) := by
  unfold p_laws_w5Ints at h
  refine callW (fu := Try.f60) rfl rfl rfl NN ?_
  intro lp cl hlp hcl
  conv => lhs; whnf
  try rw [len_of (l := a_0) (r := rI)]
  try rw [len_of (l := a_1) (r := rI)]
  cases hb1 : ((a_0.length : Int) != (a_1.length : Int))
  · replace h := ifF h ((fun h => not_not_intro (bneF h)) hb1)
    conv => lhs; whnf
    obtain ⟨hl_i7, h⟩ := grd_inv h
    refine loop_for hlp (l := a_0) hl_i7 (fun (i7 : Nat) (_ : Unit) => ([.d (.arr (a_0.map rI)), .d (.arr (a_1.map rI)), .dead, .dead, .dead, IN (i7 : Int)] ++ List.replicate 20 .dead : List V)) (fun (i7 : Nat) (_ : Unit) => ([] : Fo)) (fun (r : Bool) => ((BO r : V), ([] : Fo))) ?_ ?_ () _ (fun kk => by kernel_rfl) h
    · clear h
      rintro next_nx8 nx8 i7 hi_i7 hnx8 ⟨⟩ r h
      try dsimp only at h
      have hn_i7 : i7 < 4611686018427387904 := by omega
      have hx_x9 := get_map rI a_0 i7 hi_i7
      generalize a_0[i7] = x9 at h hx_x9
      have hd_i7 : (decide ((i7 : Int) < (a_0.length : Int))) = true := decide_eq_true (by omega)
      conv => lhs; whnf
      try rw [len_of (l := a_0) (r := rI)]
      rw [hd_i7]
      conv => lhs; whnf
      try (rw [decide_eq_true hq_x9]; conv => lhs; whnf)
      rw [hx_x9]
      conv => lhs; whnf
      rw [hx_x9]
      conv => lhs; whnf
      obtain ⟨x10, hq_x10, hx_x10', h⟩ := getK_inv h
      have hx_x10 := get_of (r := rI) hx_x10'
      try (rw [decide_eq_true hq_x10]; conv => lhs; whnf)
      rw [hx_x10]
      conv => lhs; whnf
      rw [hx_x10]
      conv => lhs; whnf
      cases hb11 : (x9 != x10)
      · replace h := ifF h ((fun h => not_not_intro (bneF h)) hb11)
        conv => lhs; whnf
        rw [wrap_nat i7 (by have := hn_i7; omega)]
        exact hnx8 _ _ _ _ (fun kk => by kernel_rfl) h
      · replace h := ifT h (bneT hb11)
        conv => lhs; whnf
        obtain rfl := Option.some.inj h
        show _ = _
        kernel_rfl
    · clear h
      rintro next_nx8 ⟨⟩ r h
      try dsimp only at h
      have hd_i7 : (decide ((a_0.length : Int) < (a_0.length : Int))) = false := decide_eq_false (by omega)
      conv => lhs; whnf
      try rw [len_of (l := a_0) (r := rI)]
      rw [hd_i7]
      conv => lhs; whnf
      obtain rfl := Option.some.inj h
      show _ = _
      kernel_rfl
  · replace h := ifT h (bneT hb1)
    conv => lhs; whnf
    obtain rfl := Option.some.inj h
    show _ = _
    kernel_rfl

noncomputable def p_laws_FnLevelMoves (a_0 : List Int) : Option Bool :=
  if (a_0.length : Int) > 400 then
    some true
  else
    callK (p_spec_DrawLevelMove a_0) fun y2 =>
    callK (p_impl_LevelMove y2) fun y3 =>
    callK (p_spec_LevelMove y2) fun y4 =>
    if ¬ y3.2 = y4.2 then
      some false
    else
      callK (p_impl_ValidWear y2) fun y6 =>
      callK (p_spec_ValidWear y2) fun y7 =>
      if (y6 == y7) = true then
        callK (p_spec_ValidWear y2) fun y9 =>
        if y9 = true then
          callK (p_impl_NeedsLevelling y2.Erases y2.Bad y2.Bound) fun y11 =>
          if ¬ y3.2 = 0 then
            some (y11 == (y3.2 == 4))
          else
            callK (p_impl_PickStatic y2.Erases y2.Bad ([] : List Int)) fun y13 =>
            if y11 = true then
              if y13 < 0 then
                some false
              else
                if y13 ≥ (y2.Erases.length : Int) then
                  some false
                else
                  if ¬ (y3.1.Erases.length : Int) = (y2.Erases.length : Int) then
                    some false
                  else
                    if ¬ (y3.1.Content.length : Int) = (y2.Content.length : Int) then
                      some false
                    else
                      grd (y2.Erases.length < 4611686018427387904) <|
                      forK y2.Erases (fun (i40 : Nat) x43 (v41 : List Int) (nx42 : (List Int) → Option _) =>
                        if (i40 : Int) = y13 then
                          getK y3.1.Erases (i40 : Int) fun x45 =>
                          if ¬ x45 = (IntKind.i64.wrap (x43 + 1)) then
                            some false
                          else
                            getK y3.1.Content (i40 : Int) fun x47 =>
                            if x47 < 0 then
                              some false
                            else
                              if x47 > 2 then
                                some false
                              else
                                getK y2.Content (i40 : Int) fun x50 =>
                                getK v41 x50 fun x51 =>
                                getK (v41.set (Int.toNat x50) (IntKind.i64.wrap (x51 + 1))) x47 fun x52 =>
                                nx42 ((v41.set (Int.toNat x50) (IntKind.i64.wrap (x51 + 1))).set (Int.toNat x47) (IntKind.i64.wrap (x52 - 1)))
                        else
                          getK y3.1.Erases (i40 : Int) fun x53 =>
                          if ¬ x53 = x43 then
                            some false
                          else
                            getK y3.1.Content (i40 : Int) fun x55 =>
                            if x55 < 0 then
                              some false
                            else
                              if x55 > 2 then
                                some false
                              else
                                getK y2.Content (i40 : Int) fun x58 =>
                                getK v41 x58 fun x59 =>
                                getK (v41.set (Int.toNat x58) (IntKind.i64.wrap (x59 + 1))) x55 fun x60 =>
                                nx42 ((v41.set (Int.toNat x58) (IntKind.i64.wrap (x59 + 1))).set (Int.toNat x55) (IntKind.i64.wrap (x60 - 1)))) ([0, 0, 0] : List Int) (fun (v41 : List Int) =>
                        callK (p_laws_w5Ints v41 ([0, 0, 0] : List Int)) fun y61 =>
                        some y61)
            else
              some false
        else
          some true
      else
        some false

set_option maxHeartbeats 4000000 in
theorem L_laws_FnLevelMoves (a_0 : List Int) {r : Bool} (h : p_laws_FnLevelMoves a_0 = some r) : callL E 8 [.d (.arr (a_0.map rU))] ([] : Fo) = some (BO r, ([] : Fo)) := by
  unfold p_laws_FnLevelMoves at h
  refine callW (fu := Try.f8) rfl rfl rfl NN ?_
  intro lp cl hlp hcl
  conv => lhs; whnf
  try rw [len_of (l := a_0) (r := rU)]
  cases hb1 : (decide ((a_0.length : Int) > 400))
  · replace h := ifF h (decF hb1)
    conv => lhs; whnf
    obtain ⟨y2, h_y2, h⟩ := callK_inv h
    rw [cl_eq hcl (L_spec_DrawLevelMove a_0 h_y2)]
    rotate_left
    · show _ = _
      kernel_rfl
    · show _ = _
      kernel_rfl
    conv => lhs; whnf
    obtain ⟨y3, h_y3, h⟩ := callK_inv h
    rw [cl_eq hcl (L_impl_LevelMove y2 h_y3)]
    rotate_left
    · show _ = _
      kernel_rfl
    · show _ = _
      kernel_rfl
    conv => lhs; whnf
    obtain ⟨y4, h_y4, h⟩ := callK_inv h
    rw [cl_eq hcl (L_spec_LevelMove y2 h_y4)]
    rotate_left
    · show _ = _
      kernel_rfl
    · show _ = _
      kernel_rfl
    conv => lhs; whnf
    cases hb5 : (y3.2 != y4.2)
    · replace h := ifF h ((fun h => not_not_intro (bneF h)) hb5)
      conv => lhs; whnf
      try (rw [hb5]; conv => lhs; whnf)
      obtain ⟨y6, h_y6, h⟩ := callK_inv h
      rw [cl_eq hcl (L_impl_ValidWear y2 h_y6)]
      rotate_left
      · show _ = _
        kernel_rfl
      · show _ = _
        kernel_rfl
      conv => lhs; whnf
      try (rw [hb5]; conv => lhs; whnf)
      try (rw [hb5]; conv => lhs; whnf)
      obtain ⟨y7, h_y7, h⟩ := callK_inv h
      rw [cl_eq hcl (L_spec_ValidWear y2 h_y7)]
      rotate_left
      · show _ = _
        kernel_rfl
      · show _ = _
        kernel_rfl
      conv => lhs; whnf
      try (rw [hb5]; conv => lhs; whnf)
      try (rw [hb5]; conv => lhs; whnf)
      cases hb8 : (y6 == y7)
      · replace h := ifF h (booF hb8)
        conv => lhs; whnf
        obtain rfl := Option.some.inj h
        show _ = _
        kernel_rfl
      · replace h := ifT h hb8
        conv => lhs; whnf
        obtain ⟨y9, h_y9, h⟩ := callK_inv h
        rw [cl_eq hcl (L_spec_ValidWear y2 h_y9)]
        rotate_left
        · show _ = _
          kernel_rfl
        · show _ = _
          kernel_rfl
        conv => lhs; whnf
        cases hb10 : y9
        · replace h := ifF h (booF hb10)
          conv => lhs; whnf
          obtain rfl := Option.some.inj h
          show _ = _
          kernel_rfl
        · replace h := ifT h hb10
          conv => lhs; whnf
          obtain ⟨y11, h_y11, h⟩ := callK_inv h
          rw [cl_eq hcl (L_impl_NeedsLevelling y2.Erases y2.Bad y2.Bound h_y11)]
          rotate_left
          · show _ = _
            kernel_rfl
          · show _ = _
            kernel_rfl
          conv => lhs; whnf
          cases hb12 : (y3.2 != 0)
          · replace h := ifF h ((fun h => not_not_intro (bneF h)) hb12)
            conv => lhs; whnf
            obtain ⟨y13, h_y13, h⟩ := callK_inv h
            rw [cl_eq hcl (L_impl_PickStatic y2.Erases y2.Bad ([] : List Int) h_y13)]
            rotate_left
            · show _ = _
              kernel_rfl
            · show _ = _
              kernel_rfl
            conv => lhs; whnf
            cases hb14 : y11
            · replace h := ifF h (booF hb14)
              conv => lhs; whnf
              try (rw [hb14]; conv => lhs; whnf)
              try (rw [hb14]; conv => lhs; whnf)
              obtain rfl := Option.some.inj h
              show _ = _
              kernel_rfl
            · replace h := ifT h hb14
              conv => lhs; whnf
              try (rw [hb14]; conv => lhs; whnf)
              try (rw [hb14]; conv => lhs; whnf)
              cases hb15 : (decide (y13 < 0))
              · replace h := ifF h (decF hb15)
                conv => lhs; whnf
                try (rw [hb15]; conv => lhs; whnf)
                try (rw [hb15]; conv => lhs; whnf)
                try (rw [hb15]; conv => lhs; whnf)
                try rw [len_of (l := y2.Erases) (r := rI)]
                try (rw [hb15]; conv => lhs; whnf)
                try (rw [hb15]; conv => lhs; whnf)
                cases hb16 : (decide (y13 ≥ (y2.Erases.length : Int)))
                · replace h := ifF h (decF hb16)
                  conv => lhs; whnf
                  try (rw [hb16]; conv => lhs; whnf)
                  try (rw [hb16]; conv => lhs; whnf)
                  try rw [len_of (l := y3.1.Erases) (r := rI)]
                  try (rw [hb16]; conv => lhs; whnf)
                  try (rw [hb16]; conv => lhs; whnf)
                  try (rw [hb16]; conv => lhs; whnf)
                  try rw [len_of (l := y2.Erases) (r := rI)]
                  try (rw [hb16]; conv => lhs; whnf)
                  try (rw [hb16]; conv => lhs; whnf)
                  cases hb17 : ((y3.1.Erases.length : Int) != (y2.Erases.length : Int))
                  · replace h := ifF h ((fun h => not_not_intro (bneF h)) hb17)
                    conv => lhs; whnf
                    try (rw [hb17]; conv => lhs; whnf)
                    try (rw [hb17]; conv => lhs; whnf)
                    try rw [len_of (l := y3.1.Content) (r := rI)]
                    try (rw [hb17]; conv => lhs; whnf)
                    try (rw [hb17]; conv => lhs; whnf)
                    try (rw [hb17]; conv => lhs; whnf)
                    try rw [len_of (l := y2.Content) (r := rI)]
                    try (rw [hb17]; conv => lhs; whnf)
                    try (rw [hb17]; conv => lhs; whnf)
                    cases hb18 : ((y3.1.Content.length : Int) != (y2.Content.length : Int))
                    · replace h := ifF h ((fun h => not_not_intro (bneF h)) hb18)
                      conv => lhs; whnf
                      obtain ⟨hl_i40, h⟩ := grd_inv h
                      refine loop_for hlp (l := y2.Erases) hl_i40 (fun (i40 : Nat) (v41 : List Int) => ([.dead, .dead, .dead, .bp 0 0, .bp 1 0, .dead, .dead, .dead, .dead, IN y13, .sl 2, IN (i40 : Int)] ++ List.replicate 154 .dead : List V)) (fun (i40 : Nat) (v41 : List Int) => ([some (.box [.d (.arr (y2.Erases.map rI)), .d (.arr (y2.Bad.map rB)), .d (.arr (y2.Content.map rI)), IN y2.Bound]), some (.box [.d (.arr (y3.1.Erases.map rI)), .d (.arr (y3.1.Bad.map rB)), .d (.arr (y3.1.Content.map rI)), IN y3.1.Bound]), some (.arr 2 1 (v41.map rI))] : Fo)) (fun (r : Bool) => ((BO r : V), ([] : Fo))) ?_ ?_ ([0, 0, 0] : List Int) _ (fun kk => by kernel_rfl) h
                      · clear h
                        rintro next_nx42 nx42 i40 hi_i40 hnx42 v41 r h
                        try dsimp only at h
                        have hn_i40 : i40 < 4611686018427387904 := by omega
                        have hx_x43 := get_map rI y2.Erases i40 hi_i40
                        generalize y2.Erases[i40] = x43 at h hx_x43
                        have hd_i40 : (decide ((i40 : Int) < (y2.Erases.length : Int))) = true := decide_eq_true (by omega)
                        conv => lhs; whnf
                        try rw [len_of (l := y2.Erases) (r := rI)]
                        rw [hd_i40]
                        conv => lhs; whnf
                        try (rw [decide_eq_true hq_x43]; conv => lhs; whnf)
                        rw [hx_x43]
                        conv => lhs; whnf
                        rw [hx_x43]
                        conv => lhs; whnf
                        cases hb44 : ((i40 : Int) == y13)
                        · replace h := ifF h (beqF hb44)
                          conv => lhs; whnf
                          obtain ⟨x53, hq_x53, hx_x53', h⟩ := getK_inv h
                          have hx_x53 := get_of (r := rI) hx_x53'
                          try (rw [decide_eq_true hq_x53]; conv => lhs; whnf)
                          rw [hx_x53]
                          conv => lhs; whnf
                          rw [hx_x53]
                          conv => lhs; whnf
                          cases hb54 : (x53 != x43)
                          · replace h := ifF h ((fun h => not_not_intro (bneF h)) hb54)
                            conv => lhs; whnf
                            try (rw [hb54]; conv => lhs; whnf)
                            try (rw [hb54]; conv => lhs; whnf)
                            try (rw [hb54]; conv => lhs; whnf)
                            obtain ⟨x55, hq_x55, hx_x55', h⟩ := getK_inv h
                            have hx_x55 := get_of (r := rI) hx_x55'
                            try (rw [decide_eq_true hq_x55]; conv => lhs; whnf)
                            rw [hx_x55]
                            conv => lhs; whnf
                            try (rw [hb54]; conv => lhs; whnf)
                            rw [hx_x55]
                            conv => lhs; whnf
                            try (rw [hb54]; conv => lhs; whnf)
                            try (rw [hb54]; conv => lhs; whnf)
                            cases hb56 : (decide (x55 < 0))
                            · replace h := ifF h (decF hb56)
                              conv => lhs; whnf
                              try (rw [hb56]; conv => lhs; whnf)
                              try (rw [hb56]; conv => lhs; whnf)
                              try (rw [hb56]; conv => lhs; whnf)
                              try (rw [decide_eq_true hq_x55]; conv => lhs; whnf)
                              rw [hx_x55]
                              conv => lhs; whnf
                              try (rw [hb56]; conv => lhs; whnf)
                              rw [hx_x55]
                              conv => lhs; whnf
                              try (rw [hb56]; conv => lhs; whnf)
                              try (rw [hb56]; conv => lhs; whnf)
                              cases hb57 : (decide (x55 > 2))
                              · replace h := ifF h (decF hb57)
                                conv => lhs; whnf
                                obtain ⟨x58, hq_x58, hx_x58', h⟩ := getK_inv h
                                have hx_x58 := get_of (r := rI) hx_x58'
                                try (rw [decide_eq_true hq_x58]; conv => lhs; whnf)
                                rw [hx_x58]
                                conv => lhs; whnf
                                rw [hx_x58]
                                conv => lhs; whnf
                                try (rw [decide_eq_true hq_x58]; conv => lhs; whnf)
                                rw [hx_x58]
                                conv => lhs; whnf
                                rw [hx_x58]
                                conv => lhs; whnf
                                obtain ⟨x59, hq_x59, hx_x59', h⟩ := getK_inv h
                                have hx_x59 := get_of (r := rI) hx_x59'
                                try (rw [decide_eq_true hq_x59]; conv => lhs; whnf)
                                rw [hx_x59]
                                conv => lhs; whnf
                                rw [hx_x59]
                                conv => lhs; whnf
                                try (rw [decide_eq_true hq_x59]; conv => lhs; whnf)
                                rw [hx_x59]
                                conv => lhs; whnf
                                rw [hx_x59]
                                conv => lhs; whnf
                                first | (rw [map_set_of (r := rI) (l := v41) (x := (IntKind.i64.wrap (x59 + 1))) ?hh]; case hh => exact rfl) | skip
                                try (rw [decide_eq_true hq_x55]; conv => lhs; whnf)
                                rw [hx_x55]
                                conv => lhs; whnf
                                rw [hx_x55]
                                conv => lhs; whnf
                                try (rw [decide_eq_true hq_x55]; conv => lhs; whnf)
                                rw [hx_x55]
                                conv => lhs; whnf
                                rw [hx_x55]
                                conv => lhs; whnf
                                obtain ⟨x60, hq_x60, hx_x60', h⟩ := getK_inv h
                                have hx_x60 := get_of (r := rI) hx_x60'
                                try (rw [decide_eq_true hq_x60]; conv => lhs; whnf)
                                rw [hx_x60]
                                conv => lhs; whnf
                                rw [hx_x60]
                                conv => lhs; whnf
                                try (rw [decide_eq_true hq_x60]; conv => lhs; whnf)
                                rw [hx_x60]
                                conv => lhs; whnf
                                rw [hx_x60]
                                conv => lhs; whnf
                                first | (rw [map_set_of (r := rI) (l := (v41.set (Int.toNat x58) (IntKind.i64.wrap (x59 + 1)))) (x := (IntKind.i64.wrap (x60 - 1))) ?hh]; case hh => exact rfl) | skip
                                rw [wrap_nat i40 (by have := hn_i40; omega)]
                                exact hnx42 _ _ _ _ (fun kk => by kernel_rfl) h
                              · replace h := ifT h (decT hb57)
                                conv => lhs; whnf
                                obtain rfl := Option.some.inj h
                                show _ = _
                                kernel_rfl
                            · replace h := ifT h (decT hb56)
                              conv => lhs; whnf
                              try (rw [hb56]; conv => lhs; whnf)
                              try (rw [hb56]; conv => lhs; whnf)
                              try (rw [hb56]; conv => lhs; whnf)
                              try (rw [hb56]; conv => lhs; whnf)
                              try (rw [hb56]; conv => lhs; whnf)
                              try (rw [hb56]; conv => lhs; whnf)
                              obtain rfl := Option.some.inj h
                              show _ = _
                              kernel_rfl
                          · replace h := ifT h (bneT hb54)
                            conv => lhs; whnf
                            try (rw [hb54]; conv => lhs; whnf)
                            try (rw [hb54]; conv => lhs; whnf)
                            try (rw [hb54]; conv => lhs; whnf)
                            try (rw [hb54]; conv => lhs; whnf)
                            try (rw [hb54]; conv => lhs; whnf)
                            try (rw [hb54]; conv => lhs; whnf)
                            obtain rfl := Option.some.inj h
                            show _ = _
                            kernel_rfl
                        · replace h := ifT h (beqT hb44)
                          conv => lhs; whnf
                          obtain ⟨x45, hq_x45, hx_x45', h⟩ := getK_inv h
                          have hx_x45 := get_of (r := rI) hx_x45'
                          try (rw [decide_eq_true hq_x45]; conv => lhs; whnf)
                          rw [hx_x45]
                          conv => lhs; whnf
                          rw [hx_x45]
                          conv => lhs; whnf
                          cases hb46 : (x45 != (IntKind.i64.wrap (x43 + 1)))
                          · replace h := ifF h ((fun h => not_not_intro (bneF h)) hb46)
                            conv => lhs; whnf
                            try (rw [hb46]; conv => lhs; whnf)
                            try (rw [hb46]; conv => lhs; whnf)
                            try (rw [hb46]; conv => lhs; whnf)
                            obtain ⟨x47, hq_x47, hx_x47', h⟩ := getK_inv h
                            have hx_x47 := get_of (r := rI) hx_x47'
                            try (rw [decide_eq_true hq_x47]; conv => lhs; whnf)
                            rw [hx_x47]
                            conv => lhs; whnf
                            try (rw [hb46]; conv => lhs; whnf)
                            rw [hx_x47]
                            conv => lhs; whnf
                            try (rw [hb46]; conv => lhs; whnf)
                            try (rw [hb46]; conv => lhs; whnf)
                            cases hb48 : (decide (x47 < 0))
                            · replace h := ifF h (decF hb48)
                              conv => lhs; whnf
                              try (rw [hb48]; conv => lhs; whnf)
                              try (rw [hb48]; conv => lhs; whnf)
                              try (rw [hb48]; conv => lhs; whnf)
                              try (rw [decide_eq_true hq_x47]; conv => lhs; whnf)
                              rw [hx_x47]
                              conv => lhs; whnf
                              try (rw [hb48]; conv => lhs; whnf)
                              rw [hx_x47]
                              conv => lhs; whnf
                              try (rw [hb48]; conv => lhs; whnf)
                              try (rw [hb48]; conv => lhs; whnf)
                              cases hb49 : (decide (x47 > 2))
                              · replace h := ifF h (decF hb49)
                                conv => lhs; whnf
                                obtain ⟨x50, hq_x50, hx_x50', h⟩ := getK_inv h
                                have hx_x50 := get_of (r := rI) hx_x50'
                                try (rw [decide_eq_true hq_x50]; conv => lhs; whnf)
                                rw [hx_x50]
                                conv => lhs; whnf
                                rw [hx_x50]
                                conv => lhs; whnf
                                try (rw [decide_eq_true hq_x50]; conv => lhs; whnf)
                                rw [hx_x50]
                                conv => lhs; whnf
                                rw [hx_x50]
                                conv => lhs; whnf
                                obtain ⟨x51, hq_x51, hx_x51', h⟩ := getK_inv h
                                have hx_x51 := get_of (r := rI) hx_x51'
                                try (rw [decide_eq_true hq_x51]; conv => lhs; whnf)
                                rw [hx_x51]
                                conv => lhs; whnf
                                rw [hx_x51]
                                conv => lhs; whnf
                                try (rw [decide_eq_true hq_x51]; conv => lhs; whnf)
                                rw [hx_x51]
                                conv => lhs; whnf
                                rw [hx_x51]
                                conv => lhs; whnf
                                first | (rw [map_set_of (r := rI) (l := v41) (x := (IntKind.i64.wrap (x51 + 1))) ?hh]; case hh => exact rfl) | skip
                                try (rw [decide_eq_true hq_x47]; conv => lhs; whnf)
                                rw [hx_x47]
                                conv => lhs; whnf
                                rw [hx_x47]
                                conv => lhs; whnf
                                try (rw [decide_eq_true hq_x47]; conv => lhs; whnf)
                                rw [hx_x47]
                                conv => lhs; whnf
                                rw [hx_x47]
                                conv => lhs; whnf
                                obtain ⟨x52, hq_x52, hx_x52', h⟩ := getK_inv h
                                have hx_x52 := get_of (r := rI) hx_x52'
                                try (rw [decide_eq_true hq_x52]; conv => lhs; whnf)
                                rw [hx_x52]
                                conv => lhs; whnf
                                rw [hx_x52]
                                conv => lhs; whnf
                                try (rw [decide_eq_true hq_x52]; conv => lhs; whnf)
                                rw [hx_x52]
                                conv => lhs; whnf
                                rw [hx_x52]
                                conv => lhs; whnf
                                first | (rw [map_set_of (r := rI) (l := (v41.set (Int.toNat x50) (IntKind.i64.wrap (x51 + 1)))) (x := (IntKind.i64.wrap (x52 - 1))) ?hh]; case hh => exact rfl) | skip
                                rw [wrap_nat i40 (by have := hn_i40; omega)]
                                exact hnx42 _ _ _ _ (fun kk => by kernel_rfl) h
                              · replace h := ifT h (decT hb49)
                                conv => lhs; whnf
                                obtain rfl := Option.some.inj h
                                show _ = _
                                kernel_rfl
                            · replace h := ifT h (decT hb48)
                              conv => lhs; whnf
                              try (rw [hb48]; conv => lhs; whnf)
                              try (rw [hb48]; conv => lhs; whnf)
                              try (rw [hb48]; conv => lhs; whnf)
                              try (rw [hb48]; conv => lhs; whnf)
                              try (rw [hb48]; conv => lhs; whnf)
                              try (rw [hb48]; conv => lhs; whnf)
                              obtain rfl := Option.some.inj h
                              show _ = _
                              kernel_rfl
                          · replace h := ifT h (bneT hb46)
                            conv => lhs; whnf
                            try (rw [hb46]; conv => lhs; whnf)
                            try (rw [hb46]; conv => lhs; whnf)
                            try (rw [hb46]; conv => lhs; whnf)
                            try (rw [hb46]; conv => lhs; whnf)
                            try (rw [hb46]; conv => lhs; whnf)
                            try (rw [hb46]; conv => lhs; whnf)
                            obtain rfl := Option.some.inj h
                            show _ = _
                            kernel_rfl
                      · clear h
                        rintro next_nx42 v41 r h
                        try dsimp only at h
                        have hd_i40 : (decide ((y2.Erases.length : Int) < (y2.Erases.length : Int))) = false := decide_eq_false (by omega)
                        conv => lhs; whnf
                        try rw [len_of (l := y2.Erases) (r := rI)]
                        rw [hd_i40]
                        conv => lhs; whnf
                        obtain ⟨y61, h_y61, h⟩ := callK_inv h
                        rw [cl_eq hcl (L_laws_w5Ints v41 ([0, 0, 0] : List Int) h_y61)]
                        rotate_left
                        · show _ = _
                          kernel_rfl
                        · show _ = _
                          kernel_rfl
                        conv => lhs; whnf
                        obtain rfl := Option.some.inj h
                        show _ = _
                        kernel_rfl
                    · replace h := ifT h (bneT hb18)
                      conv => lhs; whnf
                      obtain rfl := Option.some.inj h
                      show _ = _
                      kernel_rfl
                  · replace h := ifT h (bneT hb17)
                    conv => lhs; whnf
                    try (rw [hb17]; conv => lhs; whnf)
                    try (rw [hb17]; conv => lhs; whnf)
                    try (rw [hb17]; conv => lhs; whnf)
                    try (rw [hb17]; conv => lhs; whnf)
                    try (rw [hb17]; conv => lhs; whnf)
                    try (rw [hb17]; conv => lhs; whnf)
                    try (rw [hb17]; conv => lhs; whnf)
                    obtain rfl := Option.some.inj h
                    show _ = _
                    kernel_rfl
                · replace h := ifT h (decT hb16)
                  conv => lhs; whnf
                  try (rw [hb16]; conv => lhs; whnf)
                  try (rw [hb16]; conv => lhs; whnf)
                  try (rw [hb16]; conv => lhs; whnf)
                  try (rw [hb16]; conv => lhs; whnf)
                  try (rw [hb16]; conv => lhs; whnf)
                  try (rw [hb16]; conv => lhs; whnf)
                  try (rw [hb16]; conv => lhs; whnf)
                  obtain rfl := Option.some.inj h
                  show _ = _
                  kernel_rfl
              · replace h := ifT h (decT hb15)
                conv => lhs; whnf
                try (rw [hb15]; conv => lhs; whnf)
                try (rw [hb15]; conv => lhs; whnf)
                try (rw [hb15]; conv => lhs; whnf)
                try (rw [hb15]; conv => lhs; whnf)
                try (rw [hb15]; conv => lhs; whnf)
                obtain rfl := Option.some.inj h
                show _ = _
                kernel_rfl
          · replace h := ifT h (bneT hb12)
            conv => lhs; whnf
            obtain rfl := Option.some.inj h
            show _ = _
            kernel_rfl
    · replace h := ifT h (bneT hb5)
      conv => lhs; whnf
      try (rw [hb5]; conv => lhs; whnf)
      try (rw [hb5]; conv => lhs; whnf)
      try (rw [hb5]; conv => lhs; whnf)
      try (rw [hb5]; conv => lhs; whnf)
      try (rw [hb5]; conv => lhs; whnf)
      obtain rfl := Option.some.inj h
      show _ = _
      kernel_rfl
  · replace h := ifT h (decT hb1)
    conv => lhs; whnf
    obtain rfl := Option.some.inj h
    show _ = _
    kernel_rfl
theorem amongO_ok {b : Int} {s : Sl00Src} (l : List Int) (hl : 0 < l.length) (hb : 0 ≤ b) (h : SrcOk (b + 2) s) : ∃ r s', p_spec_l00Src_among' s l = some (r, s') ∧ r ∈ l ∧ SrcOk b s' := by
  obtain ⟨r, s1, e1, ⟨b1, b2, b3⟩, o1⟩ := pick_ok (l.length : Int) hb h
  unfold p_spec_l00Src_among'
  have hr : r < (l.length : Int) := by
    rcases Nat.lt_or_ge 1 l.length with h | h
    · exact b2 (by omega)
    · have := b3 (by omega); omega
  rw [e1, callK_some, getK_in b1 hr]
  exact ⟨_, _, rfl, List.getElem_mem _, o1⟩

/-- slices.DeleteFunc, as it is printed for a condition f; z is the element that fills the end. -/
noncomputable def delF {α : Type} (z : α) (f : α → Option Bool) (a_0 : List α) : Option (List α) :=
  callK (grd (a_0.length < 4611686018427387904) <| forK a_0 (fun (i6 : Nat) x8 (_ : Unit) (nx7 : Unit → Option _) => callK (f x8) fun y9 => if y9 = true then some (i6 : Int) else nx7 ()) () (fun (_ : Unit) => some (-1))) fun y1 =>
  if y1 = (-1) then
    some a_0
  else
    iterK (fun ((v3, v4, v5) : (Int × Int × (List α))) (nx6 : (Int × Int × (List α)) → Option _) =>
      if v4 < (v5.length : Int) then
        getK v5 v4 fun x8 =>
        callK (f x8) fun y9 =>
        if y9 = true then
          nx6 (v3, (IntKind.i64.wrap (v4 + 1)), v5)
        else
          getK v5 v3 fun x11 =>
          nx6 ((IntKind.i64.wrap (v3 + 1)), (IntKind.i64.wrap (v4 + 1)), (v5.set (Int.toNat v3) x8))
      else
        grd (0 ≤ v3 ∧ v3 < (v5.length : Int)) <|
        grd (0 ≤ v3 ∧ v3 ≤ ((v5.take (Int.toNat v3) ++ List.replicate (v5.length - (Int.toNat v3)) z).length : Int)) <|
        some ((v5.take (Int.toNat v3) ++ List.replicate (v5.length - (Int.toNat v3)) z).take (Int.toNat v3))) NN (y1, (IntKind.i64.wrap (y1 + 1)), a_0)
theorem forGo_congr {α σ R : Type} {f g : Nat → α → σ → (σ → Option R) → Option R} {k : σ → Option R} : ∀ (l : List α) (i : Nat) (s : σ), (∀ x ∈ l, ∀ i s nx, f i x s nx = g i x s nx) → forGo f k i l s = forGo g k i l s
  | [], i, s, h => rfl
  | x :: l, i, s, h => by
    rw [forGo_cons, forGo_cons, h x (by simp), show forGo f k (i + 1) l = forGo g k (i + 1) l from funext fun s => forGo_congr l (i + 1) s fun y hy => h y (by simp [hy])]
theorem idx_mem {α : Type} {f : α → Option Bool} {p : α → Bool} (l : List α) (hp : ∀ x ∈ l, f x = some (p x)) :
    forK l (fun (i : Nat) x (s : Unit) nx => callK (f x) fun y => if y = true then some (i : Int) else nx s) () (fun _ => some (-1)) = some (idxP p l) := by
  refine Eq.trans ?_ (forK_idx (f := fun x => some (p x)) (p := p) (fun x => rfl) l)
  exact forGo_congr l 0 () fun x hx i s nx => by rw [hp x hx]
/-- What is left: those for which the condition is false. -/
theorem delF_ok {α : Type} (z : α) {f : α → Option Bool} {p : α → Bool} (l : List α) (hl : l.length ≤ 1000000) (hp : ∀ x ∈ l, f x = some (p x)) : delF z f l = some (l.filter fun x => !p x) := by
  unfold delF
  rw [grd_pos (by omega), idx_mem l hp, callK_some]
  unfold idxP
  cases hi : l.findIdx? p with
  | none =>
    rw [List.findIdx?_eq_none_iff] at hi
    rw [if_pos rfl]
    congr 1
    refine (List.filter_eq_self.mpr fun x hx => ?_).symm
    simp [hi x hx]
  | some j =>
    obtain ⟨hj, h1, h2⟩ := List.findIdx?_eq_some_iff_getElem.mp hi
    dsimp only
    rw [if_neg (by omega), wrap_sm _ (by omega) (by omega)]
    have hfj : (l.take (j + 1)).filter (fun x => !p x) = l.take j := by
      rw [List.take_succ_eq_append_getElem hj, List.filter_append]
      have a : (l.take j).filter (fun x => !p x) = l.take j := List.filter_eq_self.mpr fun x hx => by
        obtain ⟨i, hi1, rfl⟩ := List.mem_take_iff_getElem.mp hx
        have := h2 i (by omega)
        simpa using this
      rw [a]; simp [h1]
    refine iterK_rule (fun d (s : Int × Int × List α) => ∃ w r : Nat, s.1 = w ∧ s.2.1 = r ∧ w < r ∧ r ≤ l.length ∧ d = l.length - r ∧ s.2.2.length = l.length ∧ s.2.2.take w = (l.take r).filter (fun x => !p x) ∧ s.2.2.drop r = l.drop r) ?_ (l.length - (j + 1)) _ (by unfold NN; omega)
      ⟨j, j + 1, rfl, by dsimp only; omega, by omega, by omega, rfl, rfl, hfj.symm, rfl⟩
    rintro d ⟨v3, v4, v5⟩ ⟨w, r, e1, e2, e3, e4, e5, e6, e7, e8⟩ nx hnx
    dsimp only at e1 e2 e6 e7 e8 hnx ⊢
    subst e1 e2
    have hfl : ((l.take r).filter (fun x => !p x)).length = w := by
      rw [← e7, List.length_take]; omega
    by_cases hr : r < l.length
    · have hx : v5[r]'(by omega) = l[r] := by
        have a := congrArg (fun t => t[0]?) e8
        simp [hr, e6] at a
        exact a
      rw [if_pos (by omega), getK_lt (by omega), hx, hp _ (List.getElem_mem hr), callK_some]
      have hs : (l.take (r + 1)).filter (fun x => !p x) = (l.take r).filter (fun x => !p x) ++ (if p l[r] = true then [] else [l[r]]) := by
        rw [List.take_succ_eq_append_getElem hr, List.filter_append]
        congr 1
        cases hq : p l[r] <;> simp [hq]
      have hd : ∀ u : List α, u.length = l.length → u.drop r = l.drop r → u.drop (r + 1) = l.drop (r + 1) := fun u _ h => by
        have := congrArg (List.drop 1) h
        simpa [List.drop_drop] using this
      by_cases hq : p l[r] = true
      · rw [if_pos hq, wrap_sm _ (by omega) (by omega)]
        exact hnx _ _ (by omega) ⟨w, r + 1, rfl, by dsimp only; omega, by omega, by omega, rfl, e6, by dsimp only; rw [hs, if_pos hq, List.append_nil, e7], hd _ e6 e8⟩
      · rw [if_neg hq, getK_lt (by omega), wrap_sm _ (by omega) (by omega), wrap_sm _ (by omega) (by omega), Int.toNat_natCast]
        refine hnx (l.length - (r + 1)) _ (by omega) ⟨w + 1, r + 1, by dsimp only; omega, by dsimp only; omega, by omega, by omega, rfl, by simpa using e6, ?_, ?_⟩
        · dsimp only
          rw [hs, if_neg hq, ← e7, List.take_succ_eq_append_getElem (by simp; omega), List.take_set_of_le (by omega)]
          simp
        · dsimp only
          rw [List.drop_set_of_lt (by omega)]
          exact hd _ e6 e8
    · have hrl : r = l.length := by omega
      subst hrl
      rw [if_neg (by omega), grd_pos (by omega), grd_pos (by simp; omega), Int.toNat_natCast, List.take_append_of_le_length (by simp; omega), List.take_take, Nat.min_self, e7, List.take_length]

theorem forK_allI {α R : Type} {l : List α} {f : Nat → α → Unit → (Unit → Option R) → Option R} {k : Unit → Option R} (p : Nat → Bool) (b : Option R) (h : ∀ (i : Nat) (hi : i < l.length) nx, f i l[i] () nx = if p i = true then nx () else b) :
    forK l f () k = if (List.range l.length).all p = true then k () else b := by
  refine forK_rule (fun i _ => ∀ j, j < i → p j = true) (fun i hi s hs nx hnx => ?_) (fun s hs => ?_) () (fun j hj => by omega)
  · rw [h i hi]
    cases hp : p i
    · have : (List.range l.length).all p = false := by
        rw [List.all_eq_false]
        exact ⟨i, List.mem_range.mpr hi, by simp [hp]⟩
      rw [this]; rfl
    · rw [if_pos rfl]
      refine hnx () fun j hj => ?_
      by_cases e : j = i
      · subst e; exact hp
      · exact hs j (by omega)
  · have : (List.range l.length).all p = true := List.all_eq_true.mpr fun i hi => hs i (List.mem_range.mp hi)
    rw [this]; rfl
theorem getK_N {α R : Type} {c : List α} {i : Nat} (z : α) (h : i < c.length) (k : α → Option R) : getK c (i : Int) k = k (c.getD i z) := by
  rw [getK_lt h]; congr 1; simp [List.getD, h]

def okR (w : Wear) (i : Nat) : Bool := inR (w.Erases.getD i 0) 0 1000 && (inR (w.Content.getD i 0) 0 2 && (!w.Bad.getD i false || w.Content.getD i 0 == 0))
def okW (w : Wear) : Bool := inR (w.Erases.length : Int) 1 36 && (w.Bad.length == w.Erases.length && (w.Content.length == w.Erases.length && (inR w.Bound 1 100 && (List.range w.Erases.length).all (okR w))))
theorem okW_iff {w : Wear} : okW w = true ↔ (1 ≤ (w.Erases.length : Int) ∧ (w.Erases.length : Int) ≤ 36) ∧ w.Bad.length = w.Erases.length ∧ w.Content.length = w.Erases.length ∧ (1 ≤ w.Bound ∧ w.Bound ≤ 100) ∧ ∀ i, i < w.Erases.length → okR w i = true := by
  unfold okW
  simp only [Bool.and_eq_true, inR_iff, beq_iff_eq, List.all_eq_true, List.mem_range]
theorem pl_iW (w : Wear) : p_impl_ValidWear w = some (okW w) := by
  unfold p_impl_ValidWear okW
  cases hc : inR (w.Erases.length : Int) 1 36
  · rfl
  have := inR_iff.mp hc
  rw [if_pos rfl]
  by_cases h1 : w.Bad.length = w.Erases.length
  · rw [if_neg (by omega)]
    by_cases h2 : w.Content.length = w.Erases.length
    · rw [if_neg (by omega)]
      cases inR w.Bound 1 100
      · simp
      · rw [if_pos rfl, grd_pos (by omega), forK_allI (okR w) (some false) (fun i hi nx => ?_), h2]
        · simp only [h1, beq_self_eq_true, Bool.true_and]
          cases (List.range w.Erases.length).all (okR w) <;> rfl
        · unfold okR
          rw [getK_N 0 (by omega), getK_N false (by omega)]
          have e : w.Content[i] = w.Content.getD i 0 := by simp [List.getD, hi]
          rw [e]
          cases inR (w.Erases.getD i 0) 0 1000 <;> cases inR (w.Content.getD i 0) 0 2 <;> cases w.Bad.getD i false <;> by_cases hz : w.Content.getD i 0 = 0 <;> simp [hz]
    · rw [if_pos (by omega)]
      simp [h2]
  · rw [if_pos (by omega)]
    simp [h1]
theorem pl_sW (w : Wear) : p_spec_ValidWear w = some (okW w) := by
  unfold p_spec_ValidWear okW
  by_cases g1 : (w.Erases.length : Int) < 1
  · rw [if_pos g1, show inR (w.Erases.length : Int) 1 36 = false from inR_not.mpr (by omega)]; rfl
  rw [if_neg g1]
  by_cases g2 : (w.Erases.length : Int) > 36
  · rw [if_pos g2, show inR (w.Erases.length : Int) 1 36 = false from inR_not.mpr (by omega)]; rfl
  rw [if_neg g2, show inR (w.Erases.length : Int) 1 36 = true from inR_iff.mpr (by omega)]
  by_cases h1 : w.Bad.length = w.Erases.length
  · rw [if_neg (by omega)]
    by_cases h2 : w.Content.length = w.Erases.length
    · rw [if_neg (by omega)]
      cases inR w.Bound 1 100
      · simp
      · rw [if_pos rfl, grd_pos (by omega), forK_allI (okR w) (some false) (fun i hi nx => ?_)]
        · simp only [h1, h2, beq_self_eq_true, Bool.true_and]
          cases (List.range w.Erases.length).all (okR w) <;> rfl
        · unfold okR
          rw [getK_N 0 (by omega), getK_N false (by omega)]
          have e : w.Erases[i] = w.Erases.getD i 0 := by simp [List.getD, hi]
          rw [e]
          cases inR (w.Erases.getD i 0) 0 1000 <;> cases inR (w.Content.getD i 0) 0 2 <;> cases w.Bad.getD i false <;> by_cases hz : w.Content.getD i 0 = 0 <;> simp [hz]
    · rw [if_pos (by omega)]
      simp [h2]
  · rw [if_pos (by omega)]
    simp [h1]
/-- The good free blocks. -/
def nums (n : Nat) (p : Nat → Bool) : List Int := ((List.range n).filter p).map fun (i : Nat) => (i : Int)
theorem nums_s (n : Nat) (p : Nat → Bool) : nums (n + 1) p = if p n = true then nums n p ++ [(n : Int)] else nums n p := by
  unfold nums
  rw [List.range_succ, List.filter_append, List.map_append]
  cases h : p n <;> simp [h]
theorem nums_len (n : Nat) (p : Nat → Bool) : (nums n p).length ≤ n := by
  unfold nums
  rw [List.length_map]
  have := List.length_filter_le p (List.range n)
  simpa using this
theorem nums_mem {n : Nat} {p : Nat → Bool} {x : Int} (h : x ∈ nums n p) : ∃ i : Nat, x = i ∧ i < n ∧ p i = true := by
  unfold nums at h
  obtain ⟨i, h1, rfl⟩ := List.mem_map.mp h
  obtain ⟨h2, h3⟩ := List.mem_filter.mp h1
  exact ⟨i, rfl, List.mem_range.mp h2, h3⟩
theorem nums_filter (n : Nat) (p : Nat → Bool) (q : Int → Bool) : (nums n p).filter q = nums n (fun i => p i && q (i : Int)) := by
  unfold nums
  rw [List.filter_map, List.filter_filter]
  congr 2
  funext i
  simp [Bool.and_comm]
def freeP (w : Wear) (i : Nat) : Bool := !w.Bad.getD i false && w.Content.getD i 0 == 0
theorem pl_good (e : List Int) (b : List Bool) (h : e.length ≤ 1000) : p_impl_good e b = some (nums e.length fun i => !b.getD i false) := by
  unfold p_impl_good
  rw [grd_pos (by omega)]
  refine forI_rule (fun i v => v = nums i fun i => !b.getD i false) (fun i hi v hv nx hnx => ?_) (fun v hv => by rw [hv]; rfl) _ rfl
  subst hv
  have hlen := nums_len i fun i => !b.getD i false
  by_cases hb : (i : Int) ≥ (b.length : Int)
  · have e1 : b.getD i false = false := by simp [List.getD, show ¬ i < b.length by omega, List.getElem?_eq_none (show b.length ≤ i by omega)]
    rw [if_pos hb, grd_pos (appOk_of _ _ (by omega))]
    exact hnx _ (by rw [nums_s, e1]; rfl)
  · rw [if_neg hb, getK_N false (by omega)]
    by_cases hx : b.getD i false = true
    · rw [if_pos hx]
      exact hnx _ (by rw [nums_s, hx]; rfl)
    · rw [if_neg hx, grd_pos (appOk_of _ _ (by omega))]
      exact hnx _ (by rw [nums_s, show b.getD i false = false by simpa using hx]; rfl)
theorem pl_free {w : Wear} (h : okW w = true) : p_impl_Wear_free w = some (nums w.Erases.length (freeP w)) := by
  obtain ⟨h1, h2, h3, _, _⟩ := okW_iff.mp h
  unfold p_impl_Wear_free
  rw [pl_good _ _ (by omega), callK_some]
  have hd := delF_ok (0 : Int) (f := fun x => p_impl_Wear_free_c1 x w) (p := fun x => w.Content.getD x.toNat 0 != 0) (nums w.Erases.length fun i => !w.Bad.getD i false) (by have := nums_len w.Erases.length fun i => !w.Bad.getD i false; omega) (fun x hx => by
    obtain ⟨i, rfl, hi, _⟩ := nums_mem hx
    unfold p_impl_Wear_free_c1
    rw [getK_N 0 (by omega), Int.toNat_natCast])
  rw [show p_slices_DeleteFunc_impl_Wear_free_c1 (nums w.Erases.length fun i => !w.Bad.getD i false) w = _ from hd, callK_some, nums_filter]
  congr 2
  funext i
  unfold freeP
  simp only [Int.toNat_natCast, bne, Bool.not_not]
theorem pl_sfree {w : Wear} (h : okW w = true) : p_spec_l12Free w = some (nums w.Erases.length (freeP w)) := by
  obtain ⟨h1, h2, h3, _, _⟩ := okW_iff.mp h
  unfold p_spec_l12Free
  rw [grd_pos (by omega)]
  refine forK_rule (fun i v => v = nums i (freeP w)) (fun i hi v hv nx hnx => ?_) (fun v hv => by rw [hv]) _ rfl
  subst hv
  have hlen := nums_len i (freeP w)
  rw [getK_N false (by omega)]
  by_cases hx : w.Bad.getD i false = true
  · rw [if_pos hx]
    exact hnx _ (by rw [nums_s, show freeP w i = false by unfold freeP; rw [hx]; rfl]; rfl)
  · rw [if_neg hx, getK_N 0 (by omega)]
    have hx : w.Bad.getD i false = false := by simpa using hx
    by_cases hz : w.Content.getD i 0 = 0
    · rw [if_pos hz, grd_pos (appOk_of _ _ (by omega))]
      exact hnx _ (by rw [nums_s, show freeP w i = true by unfold freeP; rw [hx, hz]; rfl]; rfl)
    · rw [if_neg hz]
      exact hnx _ (by rw [nums_s, show freeP w i = false by unfold freeP; rw [show (w.Content.getD i 0 == 0) = false by simpa using hz, Bool.and_false]]; rfl)
/-! ### The best -/
def ea (e : List Int) (x : Int) : Int := e.getD x.toNat 0
def bet (hot : Bool) (a b : Int) : Bool := if hot = true then decide (a < b) else decide (a > b)
def stp (hot : Bool) (e : List Int) (v x : Int) : Int := if v < 0 then x else if bet hot (ea e x) (ea e v) = true then x else if ea e x = ea e v then (if x < v then x else v) else v
def bst (hot : Bool) (e l : List Int) : Int := l.foldl (stp hot e) (-1)
theorem stp_in {hot : Bool} {e : List Int} {v x : Int} {n : Int} (hv : v = -1 ∨ 0 ≤ v ∧ v < n) (hx : 0 ≤ x ∧ x < n) : 0 ≤ stp hot e v x ∧ stp hot e v x < n := by
  unfold stp
  repeat' split
  all_goals omega
theorem fold_s {hot : Bool} {e l : List Int} {i : Nat} (hi : i < l.length) : (l.take (i + 1)).foldl (stp hot e) (-1) = stp hot e ((l.take i).foldl (stp hot e) (-1)) l[i] := by
  rw [List.take_succ_eq_append_getElem hi, List.foldl_append]; rfl
theorem getK_E {R : Type} {c : List Int} {p : Int} (h : 0 ≤ p ∧ p < c.length) (k : Int → Option R) : getK c p k = k (ea c p) := by
  rw [getK_in h.1 h.2]
  congr 1
  have : p.toNat < c.length := by omega
  simp [ea, List.getD, this]
theorem pl_less (a b : Int) : p_impl_lessThan a b = some (decide (a < b)) := rfl
theorem pl_more (a b : Int) : p_impl_moreThan a b = some (decide (a > b)) := rfl
theorem pl_bestL {e l : List Int} (h : ∀ x ∈ l, 0 ≤ x ∧ x < (e.length : Int)) (hl : l.length ≤ 1000000) : p_impl_bestOf_impl_lessThan e l = some (bst true e l) := by
  unfold p_impl_bestOf_impl_lessThan
  rw [grd_pos (by omega)]
  refine forK_rule (fun i v => v = (l.take i).foldl (stp true e) (-1) ∧ (v = -1 ∨ 0 ≤ v ∧ v < (e.length : Int))) (fun i hi v hv nx hnx => ?_) (fun v hv => by rw [hv.1, List.take_length]; rfl) _ ⟨rfl, .inl rfl⟩
  obtain ⟨hv, hr⟩ := hv
  have hx := h _ (List.getElem_mem hi)
  have nxt : nx (stp true e v l[i]) = some (bst true e l) := hnx _ ⟨by rw [fold_s hi, ← hv], .inr (stp_in hr hx)⟩
  generalize l[i] = x at hx nxt
  by_cases h0 : v < 0
  · rw [if_pos h0]
    rw [show stp true e v x = x by unfold stp; rw [if_pos h0]] at nxt
    exact nxt
  · have hv2 : 0 ≤ v ∧ v < (e.length : Int) := by omega
    rw [if_neg h0, getK_E hx, getK_E hv2, pl_less, callK_some]
    unfold stp bet at nxt
    rw [if_neg h0, if_pos rfl] at nxt
    split
    · rename_i c; rw [if_pos c] at nxt; exact nxt
    · rename_i c; rw [if_neg c] at nxt
      split
      · rename_i c2; rw [if_pos c2] at nxt
        split
        · rename_i c3; rw [if_pos c3] at nxt; exact nxt
        · rename_i c3; rw [if_neg c3] at nxt; exact nxt
      · rename_i c2; rw [if_neg c2] at nxt; exact nxt
theorem pl_bestM {e l : List Int} (h : ∀ x ∈ l, 0 ≤ x ∧ x < (e.length : Int)) (hl : l.length ≤ 1000000) : p_impl_bestOf_impl_moreThan e l = some (bst false e l) := by
  unfold p_impl_bestOf_impl_moreThan
  rw [grd_pos (by omega)]
  refine forK_rule (fun i v => v = (l.take i).foldl (stp false e) (-1) ∧ (v = -1 ∨ 0 ≤ v ∧ v < (e.length : Int))) (fun i hi v hv nx hnx => ?_) (fun v hv => by rw [hv.1, List.take_length]; rfl) _ ⟨rfl, .inl rfl⟩
  obtain ⟨hv, hr⟩ := hv
  have hx := h _ (List.getElem_mem hi)
  have nxt : nx (stp false e v l[i]) = some (bst false e l) := hnx _ ⟨by rw [fold_s hi, ← hv], .inr (stp_in hr hx)⟩
  generalize l[i] = x at hx nxt
  by_cases h0 : v < 0
  · rw [if_pos h0]
    rw [show stp false e v x = x by unfold stp; rw [if_pos h0]] at nxt
    exact nxt
  · have hv2 : 0 ≤ v ∧ v < (e.length : Int) := by omega
    rw [if_neg h0, getK_E hx, getK_E hv2, pl_more, callK_some]
    unfold stp bet at nxt
    rw [if_neg h0, if_neg (show ¬ false = true by decide)] at nxt
    split
    · rename_i c; rw [if_pos c] at nxt; exact nxt
    · rename_i c; rw [if_neg c] at nxt
      split
      · rename_i c2; rw [if_pos c2] at nxt
        split
        · rename_i c3; rw [if_pos c3] at nxt; exact nxt
        · rename_i c3; rw [if_neg c3] at nxt; exact nxt
      · rename_i c2; rw [if_neg c2] at nxt; exact nxt
theorem any_not {α : Type} (p : α → Bool) (l : List α) : (!l.any (fun x => !p x)) = l.all p := by rw [List.not_any_eq_all_not]; simp
theorem pl_within1 (x a b : Int) : p_impl_allWithin_c1 x a b = some (!inR x a b) := by unfold p_impl_allWithin_c1; simp
theorem pl_allW (l : List Int) (a b : Int) (h : l.length ≤ 1000000) : p_impl_allWithin l a b = some (l.all fun x => inR x a b) := by
  unfold p_impl_allWithin p_slices_ContainsFunc_impl_allWithin_c1 p_slices_IndexFunc_impl_allWithin_c1
  rw [grd_pos (by omega), forK_idx (p := fun x => !inR x a b) (fun x => pl_within1 x a b)]
  simp only [callK_some, idxP_any, any_not]
theorem pl_bestL' {e l : List Int} (h : ∀ x ∈ l, 0 ≤ x ∧ x < (e.length : Int)) (hl : l.length ≤ 1000000) : p_impl_bestOf_impl_lessThan' e l = some (bst true e l) := pl_bestL h hl
theorem pl_bestM' {e l : List Int} (h : ∀ x ∈ l, 0 ≤ x ∧ x < (e.length : Int)) (hl : l.length ≤ 1000000) : p_impl_bestOf_impl_moreThan' e l = some (bst false e l) := pl_bestM h hl
def pf (e l : List Int) (hot : Bool) : Int := if (l.all fun x => inR x 0 ((e.length : Int) - 1)) = true then bst hot e l else -1
theorem pl_iPF (e l : List Int) (hot : Bool) (he : e.length ≤ 1000000) (hl : l.length ≤ 1000000) : p_impl_PickFree e l hot = some (pf e l hot) := by
  unfold p_impl_PickFree pf
  rw [wrap_sm _ (by omega) (by omega), pl_allW _ _ _ hl, callK_some]
  by_cases ha : (l.all fun x => inR x 0 ((e.length : Int) - 1)) = true
  · have hin : ∀ x ∈ l, 0 ≤ x ∧ x < (e.length : Int) := fun x hx => by
      have := inR_iff.mp (List.all_eq_true.mp ha x hx)
      omega
    rw [if_pos ha, if_pos ha]
    cases hot
    · rw [if_neg (by decide), pl_bestM' hin hl, callK_some]
    · rw [if_pos rfl, pl_bestL' hin hl, callK_some]
  · rw [if_neg ha, if_neg ha]
theorem pl_sPF (e l : List Int) (hot : Bool) (he : e.length ≤ 1000000) (hl : l.length ≤ 1000000) : p_spec_PickFree e l hot = some (pf e l hot) := by
  unfold p_spec_PickFree
  rw [grd_pos (by omega)]
  refine forK_rule (fun i (s : Bool × Int) => s = (hot, (l.take i).foldl (stp hot e) (-1)) ∧ (s.2 = -1 ∨ 0 ≤ s.2 ∧ s.2 < (e.length : Int)) ∧ ∀ x ∈ l.take i, inR x 0 ((e.length : Int) - 1) = true) (fun i hi s hs nx hnx => ?_) (fun s hs => ?_) _ ⟨rfl, .inl rfl, by simp⟩
  · obtain ⟨hv, hr, hall⟩ := hs
    obtain ⟨h', v⟩ := s
    simp only [Prod.mk.injEq] at hv
    obtain ⟨rfl, hv⟩ := hv
    dsimp only at hr ⊢
    rw [wrap_sm _ (by omega) (by omega)]
    by_cases hin : inR l[i] 0 ((e.length : Int) - 1) = true
    · have hx := inR_iff.mp hin
      have nxt : nx (h', stp h' e v l[i]) = some (pf e l h') := hnx _ ⟨by rw [fold_s hi, ← hv], .inr (stp_in hr (by omega)), fun x hx2 => by
        rw [List.take_succ_eq_append_getElem hi] at hx2
        rcases List.mem_append.mp hx2 with h | h
        · exact hall x h
        · simp at h; rw [h]; exact hin⟩
      rw [if_pos hin]
      generalize l[i] = x at hx nxt
      by_cases h0 : v < 0
      · rw [if_pos h0]
        rw [show stp h' e v x = x by unfold stp; rw [if_pos h0]] at nxt
        exact nxt
      · have hv2 : 0 ≤ v ∧ v < (e.length : Int) := by omega
        rw [if_neg h0, getK_E (show 0 ≤ x ∧ x < (e.length : Int) by omega), getK_E hv2]
        unfold stp bet at nxt
        rw [if_neg h0] at nxt
        cases h'
        · rw [if_neg (show ¬ false = true by decide)] at nxt ⊢
          simp only [decide_eq_true_eq] at nxt
          split
          · rename_i c; rw [if_pos c] at nxt; exact nxt
          · rename_i c; rw [if_neg c] at nxt
            split
            · rename_i c2; rw [if_pos c2] at nxt
              split
              · rename_i c3; rw [if_pos c3] at nxt; exact nxt
              · rename_i c3; rw [if_neg c3] at nxt; exact nxt
            · rename_i c2; rw [if_neg c2] at nxt; exact nxt
        · rw [if_pos rfl] at nxt ⊢
          simp only [decide_eq_true_eq] at nxt
          split
          · rename_i c; rw [if_pos c] at nxt; exact nxt
          · rename_i c; rw [if_neg c] at nxt
            split
            · rename_i c2; rw [if_pos c2] at nxt
              split
              · rename_i c3; rw [if_pos c3] at nxt; exact nxt
              · rename_i c3; rw [if_neg c3] at nxt; exact nxt
            · rename_i c2; rw [if_neg c2] at nxt; exact nxt
    · rw [if_neg hin]
      unfold pf
      rw [if_neg (show ¬ (l.all fun x => inR x 0 ((e.length : Int) - 1)) = true from fun ha => hin (List.all_eq_true.mp ha l[i] (List.getElem_mem hi)))]
  · obtain ⟨rfl, _, hall⟩ := hs
    rw [List.take_length] at hall ⊢
    unfold pf
    rw [if_pos (List.all_eq_true.mpr hall)]; rfl
/-! ### The draws -/
theorem pkn {n r : Int} (h1 : 1 ≤ n) (hr : 0 ≤ r ∧ (1 < n → r < n) ∧ (n ≤ 1 → r = 0)) : 0 ≤ r ∧ r < n := ⟨hr.1, by
  by_cases h : 1 < n
  · exact hr.2.1 h
  · have := hr.2.2 (by omega); omega⟩
theorem wear_ok {b : Int} {s : Sl00Src} (hb : 0 ≤ b) (h : SrcOk (b + 400) s) : ∃ r, p_spec_l12Draw s = some r ∧ SrcOk b r.2 := by
  obtain ⟨k1, s1, e1, b1, o1⟩ := pick_ok (b := b + 398) 4 (by omega) (h.le (by omega))
  have b1 := pkn (by omega) b1
  obtain ⟨k2, s2, e2, b2, o2⟩ := pick_ok (b := b + 396) 8 (by omega) (o1.le (by omega))
  have b2 := pkn (by omega) b2
  unfold p_spec_l12Draw
  rw [e1, callK_some]
  dsimp only
  rw [e2, callK_some]
  dsimp only
  rw [wrap_sm (1 + k2) (by omega) (by omega)]
  refine iterK_ex (Q := fun r : Wear × Sl00Src => SrcOk b r.2) (fun d (x : Int × Sl00Src × List Int × List Bool × List Int) => x.1 = (d : Int) ∧ SrcOk (b + 30 + 20 * (d : Int)) x.2.1 ∧ x.2.2.2.1.length = x.2.2.1.length ∧ x.2.2.2.2.length = x.2.2.1.length ∧ x.2.2.1.length + d ≤ 8 ∧ 1 ≤ x.2.2.1.length + d) ?_ (1 + k2).toNat _ (by unfold NN; omega) ⟨by dsimp only; omega, o2.le (by omega), rfl, rfl, by simp; omega, by simp; omega⟩
  rintro d ⟨v3, v4, v5, v6, v7⟩ ⟨h1, h2, h3, h4, h5, h6⟩ nx hnx
  dsimp only at h1 h2 h3 h4 h5 h6 hnx ⊢
  by_cases hv : v3 > 0
  · obtain ⟨y, t1, f1, w1⟩ := one_ok (b := b + 28 + 20 * (d : Int)) 8 (by omega) (h2.le (by omega))
    obtain ⟨q, t2, f2, _, w2⟩ := pick_ok (b := b + 26 + 20 * (d : Int)) 10 (by omega) (w1.le (by omega))
    rw [if_pos hv, f1, callK_some]
    dsimp only
    rw [f2, callK_some, grd_pos (appOk_of _ _ (by omega)), grd_pos (appOk_of _ _ (by omega)), wrap_sm (v3 - 1) (by omega) (by omega)]
    dsimp only
    split
    · rw [grd_pos (appOk_of _ _ (by omega))]
      exact hnx (d - 1) _ (by omega) ⟨by dsimp only; omega, w2.le (by omega), by simp [h3], by simp [h4], by simp; omega, by simp; omega⟩
    · obtain ⟨q2, t3, f3, _, w3⟩ := pick_ok (b := b + 24 + 20 * (d : Int)) 3 (by omega) (w2.le (by omega))
      rw [f3, callK_some, grd_pos (appOk_of _ _ (by omega))]
      exact hnx (d - 1) _ (by omega) ⟨by dsimp only; omega, w3.le (by omega), by simp [h3], by simp [h4], by simp; omega, by simp; omega⟩
  · obtain ⟨y, t1, f1, w1⟩ := one_ok (b := b + 28) 12 (by omega) (h2.le (by omega))
    rw [if_neg hv, f1, callK_some]
    dsimp only
    split
    · obtain ⟨q, t2, f2, c2, w2⟩ := pick_ok (b := b + 26) (v5.length : Int) (by omega) (w1.le (by omega))
      have c2 := pkn (by omega) c2
      obtain ⟨m, t3, f3, _, w3⟩ := pick_ok (b := b + 24) 6 (by omega) (w2.le (by omega))
      rw [f2, callK_some]
      dsimp only
      rw [f3, callK_some]
      dsimp only
      split
      · obtain ⟨z, t4, f4, _, w4⟩ := amongO_ok (b := b + 20) ([(-1), 1000, 1001] : List Int) (by simp) (by omega) (w3.le (by omega))
        rw [f4, callK_some, getK_in c2.1 c2.2]
        exact ⟨_, rfl, w4.le (by omega)⟩
      split
      · obtain ⟨z, t4, f4, _, w4⟩ := amongO_ok (b := b + 20) ([(-1), 3] : List Int) (by simp) (by omega) (w3.le (by omega))
        rw [f4, callK_some, getK_in c2.1 (by omega)]
        exact ⟨_, rfl, w4.le (by omega)⟩
      split
      · obtain ⟨z, t4, f4, _, w4⟩ := amongO_ok (b := b + 20) ([0, 100, 101] : List Int) (by simp) (by omega) (w3.le (by omega))
        rw [f4, callK_some]
        exact ⟨_, rfl, w4.le (by omega)⟩
      split
      · rw [grd_pos ⟨by omega, by omega, by omega⟩]
        exact ⟨_, rfl, w3.le (by omega)⟩
      split
      · rw [getK_in c2.1 (by omega)]
        exact ⟨_, rfl, w3.le (by omega)⟩
      split
      · exact ⟨_, rfl, w3.le (by omega)⟩
      · exact ⟨_, rfl, w3.le (by omega)⟩
    · exact ⟨_, rfl, w1.le (by omega)⟩
def hasB (l : List Int) (x : Int) : Bool := l.any fun y => decide (y = x)
theorem pl_has (l : List Int) (x : Int) (h : l.length ≤ 1000000) : p_spec_l00Has l x = some (hasB l x) := by
  unfold p_spec_l00Has hasB
  rw [grd_pos (by omega), forK_any2 (fun y => decide (y = x)) (some true) (fun i y nx => by by_cases e : y = x <;> simp [e])]
  cases l.any fun y => decide (y = x) <;> rfl
theorem pl_lgood (b : List Bool) (i : Nat) : p_spec_l12Good b (i : Int) = some (!b.getD i false) := by
  unfold p_spec_l12Good
  by_cases h : (i : Int) ≥ (b.length : Int)
  · have e1 : b.getD i false = false := by simp [List.getD, List.getElem?_eq_none (show b.length ≤ i by omega)]
    rw [if_pos h, e1]; rfl
  · rw [if_neg h, getK_N false (by omega)]
def stat (e : List Int) (b : List Bool) (l : List Int) : Int := bst true e (nums e.length fun i => !b.getD i false && !hasB l (i : Int))
theorem pl_sPS (e : List Int) (b : List Bool) (l : List Int) (he : e.length ≤ 1000) (hl : l.length ≤ 1000) : p_spec_PickStatic e b l = some (stat e b l) := by
  unfold p_spec_PickStatic stat
  rw [grd_pos (by omega)]
  refine forK_rule (fun i v => v = bst true e (nums i fun i => !b.getD i false && !hasB l (i : Int)) ∧ (v = -1 ∨ 0 ≤ v ∧ v < (i : Int))) (fun i hi v hv nx hnx => ?_) (fun v hv => by rw [hv.1]) _ ⟨rfl, .inl rfl⟩
  obtain ⟨hv, hr⟩ := hv
  have sk : (!b.getD i false && !hasB l (i : Int)) = false → nx v = some (bst true e (nums e.length fun i => !b.getD i false && !hasB l (i : Int))) := fun h => hnx _ ⟨by rw [nums_s, h]; exact hv, by omega⟩
  have tk : (!b.getD i false && !hasB l (i : Int)) = true → nx (stp true e v (i : Int)) = some (bst true e (nums e.length fun i => !b.getD i false && !hasB l (i : Int))) := fun h => hnx _ ⟨by rw [nums_s, h, if_pos rfl]; unfold bst; rw [List.foldl_append]; unfold bst at hv; rw [← hv]; rfl, .inr (by have := stp_in (hot := true) (e := e) (x := (i : Int)) (n := (i : Int) + 1) (show v = -1 ∨ 0 ≤ v ∧ v < (i : Int) + 1 by omega) (by omega); omega)⟩
  rw [pl_lgood, callK_some]
  cases hg : !b.getD i false
  · rw [hg] at sk
    exact sk rfl
  rw [if_pos rfl, pl_has _ _ (by omega), callK_some]
  cases hh : hasB l (i : Int)
  · rw [hg, hh] at tk
    have tk := tk rfl
    rw [if_neg (by decide)]
    unfold stp at tk
    by_cases h0 : v < 0
    · rw [if_pos h0] at tk ⊢; exact tk
    · rw [if_neg h0] at tk ⊢
      rw [getK_E (show 0 ≤ v ∧ v < (e.length : Int) by omega)]
      have hx : e[i] = ea e (i : Int) := by simp [ea, List.getD, hi]
      rw [hx]
      unfold bet at tk
      rw [if_pos rfl] at tk
      simp only [decide_eq_true_eq] at tk
      split
      · rename_i c; rw [if_pos c] at tk; exact tk
      · rename_i c
        rw [if_neg c, if_neg (show ¬ (i : Int) < v by omega)] at tk
        simpa using tk
  · rw [hg, hh] at sk
    exact sk rfl

theorem pl_contains (l : List Int) (x : Int) (h : l.length ≤ 1000000) : p_slices_Contains l x = some (hasB l x) := by
  unfold p_slices_Contains p_slices_Index hasB
  rw [grd_pos (by omega)]
  have e1 : forK l (fun (i5 : Nat) x7 (_ : Unit) (nx6 : Unit → Option _) => if x = x7 then some (i5 : Int) else nx6 ()) () (fun (_ : Unit) => some (-1)) = some (idxP (fun y => decide (x = y)) l) :=
    Eq.trans (forGo_congr l 0 () fun y _ i s nx => by
      cases s
      by_cases c : x = y
      · rw [if_pos c, callK_some, decide_eq_true c, if_pos rfl]
      · rw [if_neg c, callK_some, decide_eq_false c, if_neg (by decide)]) (idx_mem (f := fun y => some (decide (x = y))) (p := fun y => decide (x = y)) l (fun _ _ => rfl))
  rw [e1]
  simp only [callK_some, idxP_any]
  congr 2
  funext y
  simp only [eq_comm]
theorem pl_iPS (e : List Int) (b : List Bool) (l : List Int) (he : e.length ≤ 1000) (hl : l.length ≤ 1000) : p_impl_PickStatic e b l = some (stat e b l) := by
  unfold p_impl_PickStatic stat
  have hn := nums_len e.length fun i => !b.getD i false
  have hn2 := nums_len e.length fun i => !b.getD i false && !hasB l (i : Int)
  have hd := delF_ok (0 : Int) (f := fun x => p_impl_PickStatic_c1 x l) (p := fun x => hasB l x) (nums e.length fun i => !b.getD i false) (by omega) (fun x hx => by
    unfold p_impl_PickStatic_c1
    rw [pl_contains _ _ (by omega), callK_some])
  have hb := pl_bestL (e := e) (l := nums e.length fun i => !b.getD i false && !hasB l (i : Int)) (fun x hx => by obtain ⟨i, rfl, hi, _⟩ := nums_mem hx; omega) (by omega)
  rw [pl_good _ _ he, callK_some, show p_slices_DeleteFunc_impl_PickStatic_c1 (nums e.length fun i => !b.getD i false) l = _ from hd, callK_some, nums_filter, hb, callK_some]
/-! ### The law -/
theorem bet_tr {hot : Bool} {x s z : Int} (h1 : bet hot x s = false) (h2 : bet hot s z = false) : bet hot x z = false := by
  unfold bet at *
  cases hot <;> simp at * <;> omega
theorem stp_facts {hot : Bool} {e : List Int} {v a : Int} : (stp hot e v a = a ∨ (0 ≤ v ∧ stp hot e v a = v)) ∧ bet hot (ea e a) (ea e (stp hot e v a)) = false ∧ (0 ≤ v → bet hot (ea e v) (ea e (stp hot e v a)) = false) := by
  have rf : ∀ x, bet hot x x = false := fun x => by unfold bet; simp
  unfold stp
  by_cases h0 : v < 0
  · rw [if_pos h0]; exact ⟨.inl rfl, rf _, fun h => by omega⟩
  rw [if_neg h0]
  by_cases h1 : bet hot (ea e a) (ea e v) = true
  · rw [if_pos h1]
    refine ⟨.inl rfl, rf _, fun _ => ?_⟩
    unfold bet at h1 ⊢
    cases hot <;> simp at h1 ⊢ <;> omega
  rw [if_neg h1]
  have h1 : bet hot (ea e a) (ea e v) = false := by simpa using h1
  by_cases h2 : ea e a = ea e v
  · rw [if_pos h2]
    split
    · exact ⟨.inl rfl, rf _, fun _ => by rw [h2]; exact rf _⟩
    · exact ⟨.inr ⟨by omega, rfl⟩, by rw [h2]; exact rf _, fun _ => rf _⟩
  · rw [if_neg h2]
    exact ⟨.inr ⟨by omega, rfl⟩, h1, fun _ => rf _⟩
/-- The best of a list: one of it, none better. -/
theorem best_go {hot : Bool} {e : List Int} : ∀ (l : List Int) (v : Int), (∀ x ∈ l, 0 ≤ x) → (0 ≤ l.foldl (stp hot e) v → (l.foldl (stp hot e) v = v ∨ l.foldl (stp hot e) v ∈ l) ∧
    (∀ x ∈ l, bet hot (ea e x) (ea e (l.foldl (stp hot e) v)) = false) ∧ (0 ≤ v → bet hot (ea e v) (ea e (l.foldl (stp hot e) v)) = false))
  | [], v, h => fun h0 => ⟨.inl rfl, fun x hx => by simp at hx, fun h1 => by simp [bet]⟩
  | a :: l, v, h => by
    intro h0
    rw [List.foldl_cons] at h0 ⊢
    obtain ⟨g1, g2, g3⟩ := best_go l (stp hot e v a) (fun x hx => h x (by simp [hx])) h0
    obtain ⟨s1, s2, s3⟩ := stp_facts (hot := hot) (e := e) (v := v) (a := a)
    have ha := h a (by simp)
    have g3 := g3 (by rcases s1 with s1 | s1 <;> omega)
    generalize l.foldl (stp hot e) (stp hot e v a) = z at g1 g2 g3 ⊢
    refine ⟨?_, fun x hx => ?_, fun hv => bet_tr (s3 hv) g3⟩
    · rcases g1 with g1 | g1
      · rcases s1 with s1 | s1
        · exact .inr (by rw [g1, s1]; simp)
        · exact .inl (by rw [g1, s1.2])
      · exact .inr (List.mem_cons_of_mem _ g1)
    · rcases List.mem_cons.mp hx with rfl | hx
      · exact bet_tr s2 g3
      · exact g2 x hx
/-- What is chosen among the good free blocks. -/
def cho (w : Wear) (hot : Bool) : Int := pf w.Erases (nums w.Erases.length (freeP w)) hot
theorem cho_ok {w : Wear} {hot : Bool} (h : 0 ≤ cho w hot) : (∃ i : Nat, cho w hot = i ∧ i < w.Erases.length ∧ freeP w i = true) ∧ ∀ i : Nat, i < w.Erases.length → freeP w i = true → bet hot (ea w.Erases (i : Int)) (ea w.Erases (cho w hot)) = false := by
  have hin : ((nums w.Erases.length (freeP w)).all fun x => inR x 0 ((w.Erases.length : Int) - 1)) = true := List.all_eq_true.mpr fun x hx => by
    obtain ⟨i, rfl, hi, _⟩ := nums_mem hx
    exact inR_iff.mpr (by omega)
  have e1 : cho w hot = (nums w.Erases.length (freeP w)).foldl (stp hot w.Erases) (-1) := by unfold cho pf; rw [if_pos hin]; rfl
  rw [e1] at h ⊢
  obtain ⟨g1, g2, _⟩ := best_go (nums w.Erases.length (freeP w)) (-1) (fun x hx => by obtain ⟨i, rfl, _, _⟩ := nums_mem hx; omega) h
  refine ⟨?_, fun i hi hf => g2 _ ?_⟩
  · rcases g1 with g1 | g1
    · omega
    · exact nums_mem g1
  · unfold nums
    exact List.mem_map.mpr ⟨i, List.mem_filter.mpr ⟨List.mem_range.mpr hi, hf⟩, rfl⟩

/-! ### The gap -/
def goodP (b : List Bool) (i : Nat) : Bool := !b.getD i false
def gdl (e : List Int) (b : List Bool) : List Int := nums e.length (goodP b)
def gapV (e : List Int) (b : List Bool) : Int := if gdl e b = [] then 0 else ea e (bst false e (gdl e b)) - ea e (bst true e (gdl e b))
theorem bst_in {hot : Bool} {e l : List Int} (h : ∀ x ∈ l, 0 ≤ x ∧ x < (e.length : Int)) (hne : l ≠ []) : 0 ≤ bst hot e l ∧ bst hot e l < e.length := by
  have go : ∀ (l : List Int) (v : Int), (∀ x ∈ l, 0 ≤ x ∧ x < (e.length : Int)) → (0 ≤ v ∧ v < (e.length : Int)) → 0 ≤ l.foldl (stp hot e) v ∧ l.foldl (stp hot e) v < e.length := by
    intro l
    induction l with
    | nil => intro v _ h; exact h
    | cons x l ih =>
      intro v h hv
      rw [List.foldl_cons]
      exact ih _ (fun y hy => h y (by simp [hy])) (stp_in (.inr hv) (h x (by simp)))
  cases l with
  | nil => exact absurd rfl hne
  | cons x l =>
    unfold bst
    rw [List.foldl_cons]
    exact go l _ (fun y hy => h y (by simp [hy])) (stp_in (.inl rfl) (h x (by simp)))
theorem gdl_in {e : List Int} {b : List Bool} {x : Int} (h : x ∈ gdl e b) : 0 ≤ x ∧ x < (e.length : Int) := by
  obtain ⟨i, rfl, hi, _⟩ := nums_mem h
  omega
theorem ea_stp {hot : Bool} {e : List Int} {v x : Int} (hv : 0 ≤ v) : ea e (stp hot e v x) = if bet hot (ea e x) (ea e v) = true then ea e x else ea e v := by
  unfold stp
  rw [if_neg (by omega)]
  split
  · rfl
  · split
    · rename_i h; split <;> simp [h]
    · rfl
theorem ea_okW {w : Wear} (h : okW w = true) (i : Nat) (hi : i < w.Erases.length) : 0 ≤ ea w.Erases i ∧ ea w.Erases i ≤ 1000 := by
  obtain ⟨_, _, _, _, h5⟩ := okW_iff.mp h
  have := h5 i hi
  unfold okR at this
  simp only [Bool.and_eq_true, inR_iff] at this
  unfold ea
  rw [Int.toNat_natCast]
  exact this.1
theorem all_okW {w : Wear} (h : okW w = true) : (w.Erases.all fun x => inR x 0 1000) = true := by
  refine List.all_eq_true.mpr fun x hx => ?_
  obtain ⟨i, hi, rfl⟩ := List.mem_iff_getElem.mp hx
  have := ea_okW h i hi
  unfold ea at this
  rw [Int.toNat_natCast] at this
  have e : w.Erases.getD i 0 = w.Erases[i] := by simp [List.getD, hi]
  rw [e] at this
  exact inR_iff.mpr this
theorem bst_ea {w : Wear} (h : okW w = true) {hot : Bool} (hne : gdl w.Erases w.Bad ≠ []) : 0 ≤ ea w.Erases (bst hot w.Erases (gdl w.Erases w.Bad)) ∧ ea w.Erases (bst hot w.Erases (gdl w.Erases w.Bad)) ≤ 1000 := by
  obtain ⟨h1, h2⟩ := bst_in (hot := hot) (e := w.Erases) (fun x hx => gdl_in hx) hne
  obtain ⟨i, hi⟩ := Int.eq_ofNat_of_zero_le h1
  rw [hi]
  exact ea_okW h i (by omega)
theorem pl_iGap {w : Wear} (h : okW w = true) : p_impl_WearGap w.Erases w.Bad = some (gapV w.Erases w.Bad) := by
  obtain ⟨h1, h2, h3, _, _⟩ := okW_iff.mp h
  unfold p_impl_WearGap gapV
  have hg := pl_good w.Erases w.Bad (by omega)
  rw [show (nums w.Erases.length fun i => !w.Bad.getD i false) = gdl w.Erases w.Bad from rfl] at hg
  rw [hg, callK_some]
  have hlen : (gdl w.Erases w.Bad).length ≤ w.Erases.length := nums_len _ _
  by_cases hne : gdl w.Erases w.Bad = []
  · rw [if_pos (by rw [hne]; rfl), if_pos hne]
  · rw [if_neg (by have := List.length_pos_iff.mpr hne; omega), if_neg hne, pl_allW _ _ _ (by omega), callK_some, all_okW h, if_pos rfl]
    have b1 := bst_in (hot := false) (e := w.Erases) (fun x hx => gdl_in hx) hne
    have b2 := bst_in (hot := true) (e := w.Erases) (fun x hx => gdl_in hx) hne
    have c1 := bst_ea (hot := false) h hne
    have c2 := bst_ea (hot := true) h hne
    rw [pl_bestM (fun x hx => gdl_in hx) (by omega), callK_some, getK_E b1, pl_bestL (fun x hx => gdl_in hx) (by omega), callK_some, getK_E b2, wrap_sm _ (by omega) (by omega)]
theorem pl_sGap {w : Wear} (h : okW w = true) : p_spec_WearGap w.Erases w.Bad = some (gapV w.Erases w.Bad) := by
  obtain ⟨h1, h2, h3, _, _⟩ := okW_iff.mp h
  have hc : p_spec_l12Counted w.Erases = some true := by
    unfold p_spec_l12Counted
    rw [grd_pos (by omega)]
    refine forK_rule (fun _ _ => True) (fun i hi s _ nx hnx => ?_) (fun s _ => rfl) () trivial
    rw [if_pos (List.all_eq_true.mp (all_okW h) _ (List.getElem_mem hi))]
    exact hnx () trivial
  have hx : ∃ r, p_spec_l12Extremes w.Erases w.Bad = some r ∧ r.2.1 - r.1 = gapV w.Erases w.Bad := by
    unfold p_spec_l12Extremes
    rw [grd_pos (by omega)]
    refine forK_ex (fun i s => (nums i (goodP w.Bad) = [] ∧ s = (0, 0, false)) ∨ (nums i (goodP w.Bad) ≠ [] ∧ s = (ea w.Erases (bst true w.Erases (nums i (goodP w.Bad))), ea w.Erases (bst false w.Erases (nums i (goodP w.Bad))), true)))
      (fun i hi s hs nx hnx => ?_) (fun s hs => ?_) _ (.inl ⟨rfl, rfl⟩)
    · obtain ⟨v15, v16, v17⟩ := s
      dsimp only
      rw [pl_lgood, callK_some]
      have ex : w.Erases[i] = ea w.Erases (i : Int) := by simp [ea, List.getD, hi]
      have hin : ∀ x ∈ nums i (goodP w.Bad), 0 ≤ x ∧ x < (w.Erases.length : Int) := fun x hx => by obtain ⟨j, rfl, hj, _⟩ := nums_mem hx; omega
      rw [ex]
      have hns := nums_s i (goodP w.Bad)
      by_cases hg : (!w.Bad.getD i false) = true
      · rw [if_pos hg]
        rw [if_pos (show goodP w.Bad i = true from hg)] at hns
        have hne : nums (i + 1) (goodP w.Bad) ≠ [] := by rw [hns]; simp
        have step : ∀ hot, bst hot w.Erases (nums (i + 1) (goodP w.Bad)) = stp hot w.Erases (bst hot w.Erases (nums i (goodP w.Bad))) (i : Int) := fun hot => by rw [hns]; unfold bst; rw [List.foldl_append]; rfl
        rcases hs with ⟨h0, hs⟩ | ⟨h0, hs⟩
        · simp only [Prod.mk.injEq] at hs
          obtain ⟨rfl, rfl, rfl⟩ := hs
          rw [if_neg (by decide)]
          refine hnx _ (.inr ⟨hne, ?_⟩)
          have e0 : ∀ hot, stp hot w.Erases (bst hot w.Erases []) (i : Int) = (i : Int) := fun hot => by unfold stp bst; rw [if_pos (by simp)]
          rw [step, step, h0, e0, e0]
        · simp only [Prod.mk.injEq] at hs
          obtain ⟨rfl, rfl, rfl⟩ := hs
          rw [if_pos rfl]
          have b1 := (bst_in (hot := true) hin h0).1
          have b2 := (bst_in (hot := false) hin h0).1
          have e1 := ea_stp (hot := true) (e := w.Erases) (x := (i : Int)) b1
          have e2 := ea_stp (hot := false) (e := w.Erases) (x := (i : Int)) b2
          rw [← step] at e1 e2
          unfold bet at e1 e2
          simp only [if_true, Bool.false_eq_true, if_false, decide_eq_true_eq] at e1 e2
          have fin := hnx _ (.inr ⟨hne, rfl⟩)
          rw [e1, e2] at fin
          split
          · rename_i c1
            rw [if_pos c1] at fin
            split
            · rename_i c2; rw [if_pos c2] at fin; exact fin
            · rename_i c2; rw [if_neg c2] at fin; exact fin
          · rename_i c1
            rw [if_neg c1] at fin
            split
            · rename_i c2; rw [if_pos c2] at fin; exact fin
            · rename_i c2; rw [if_neg c2] at fin; exact fin
      · rw [if_neg hg]
        rw [if_neg (show ¬ goodP w.Bad i = true from hg)] at hns
        exact hnx _ (by rw [hns]; exact hs)
    · refine ⟨_, rfl, ?_⟩
      unfold gapV gdl
      rcases hs with ⟨h0, rfl⟩ | ⟨h0, rfl⟩
      · rw [if_pos h0]; rfl
      · rw [if_neg h0]
  obtain ⟨r, e, hr⟩ := hx
  unfold p_spec_WearGap
  rw [hc, callK_some, if_pos rfl, e, callK_some, hr]
  have : 0 - 1000 ≤ gapV w.Erases w.Bad ∧ gapV w.Erases w.Bad ≤ 1000 := by
    unfold gapV
    by_cases hne : gdl w.Erases w.Bad = []
    · rw [if_pos hne]; omega
    · rw [if_neg hne]
      have c1 := bst_ea (hot := false) h hne
      have c2 := bst_ea (hot := true) h hne
      omega
  rw [wrap_sm _ (by omega) (by omega)]
def nil0 : Wear := ⟨[], [], [], 0⟩
/-! ### The move -/
def stB (w : Wear) : Int := stat w.Erases w.Bad []
theorem stB_eq (w : Wear) : stB w = bst true w.Erases (gdl w.Erases w.Bad) := by
  unfold stB stat gdl
  congr 1
  unfold nums goodP
  congr 2
  funext i
  simp [hasB]
theorem stB_in {w : Wear} (hg : gapV w.Erases w.Bad > w.Bound) (hb : 1 ≤ w.Bound) : 0 ≤ stB w ∧ stB w < w.Erases.length := by
  rw [stB_eq]
  refine bst_in (fun x hx => gdl_in hx) fun h0 => ?_
  unfold gapV at hg
  rw [if_pos h0] at hg
  omega
def cl (w : Wear) (ct : List Int) : Wear := ⟨w.Erases.set (stB w).toNat (ea w.Erases (stB w) + 1), w.Bad, ct.set (stB w).toNat 0, w.Bound⟩
def lvl (w : Wear) : Wear × Int := if okW w = true then if gapV w.Erases w.Bad > w.Bound then
    if ¬ ea w.Content (stB w) = 0 then if cho w false < 0 then (nil0, 4) else (cl w (w.Content.set (cho w false).toNat (ea w.Content (stB w))), 0) else (cl w w.Content, 0)
  else (nil0, 5) else (nil0, 1)
theorem cho_in {w : Wear} (h : ¬ cho w false < 0) : 0 ≤ cho w false ∧ cho w false < w.Erases.length := by
  obtain ⟨⟨i, ei, hi, _⟩, _⟩ := cho_ok (w := w) (hot := false) (by omega)
  omega
theorem pl_iLM (w : Wear) : p_impl_LevelMove w = some (lvl w) := by
  unfold p_impl_LevelMove lvl
  rw [pl_iW, callK_some]
  by_cases ok : okW w = true
  · obtain ⟨h1, h2, h3, h4, h5⟩ := okW_iff.mp ok
    rw [if_pos ok, if_pos ok]
    unfold p_impl_Wear_needs p_impl_NeedsLevelling
    rw [pl_iGap ok, callK_some, callK_some, callK_some]
    by_cases hg : gapV w.Erases w.Bad > w.Bound
    · rw [if_pos (by simpa using hg), if_pos hg]
      have hb := stB_in hg h4.1
      have hE := ea_okW ok (stB w).toNat (by omega)
      rw [Int.toNat_of_nonneg hb.1] at hE
      have hcl : p_impl_Wear_clone w = some (w.Bound, w.Erases, w.Bad, w.Content) := by
        unfold p_impl_Wear_clone
        rw [grd_pos (appOk_of _ _ (by omega)), grd_pos (appOk_of _ _ (by omega)), grd_pos (appOk_of _ _ (by omega))]
      rw [hcl, callK_some]
      dsimp only
      unfold p_impl_Wear_move
      rw [pl_iPS _ _ _ (by omega) (by simp), callK_some, show stat w.Erases w.Bad [] = stB w from rfl, getK_E (by omega)]
      have hw : (⟨w.Erases, w.Bad, w.Content, w.Bound⟩ : Wear) = w := rfl
      by_cases hc : ea w.Content (stB w) = 0
      · rw [if_neg (by simpa using hc), if_neg (by simpa using hc)]
        unfold p_impl_Wear_clear
        rw [getK_E hb, getK_E (by omega), wrap_sm _ (by omega) (by omega)]
        rfl
      · rw [if_pos hc, if_pos hc, hw, pl_free ok, callK_some]
        have hn := nums_len w.Erases.length (freeP w)
        rw [pl_iPF _ _ _ (by omega) (by omega), callK_some, show pf w.Erases (nums w.Erases.length (freeP w)) false = cho w false from rfl]
        by_cases h0 : cho w false < 0
        · rw [if_pos h0, if_pos h0]; rfl
        · have hi := cho_in h0
          rw [if_neg h0, if_neg h0, getK_E (by omega)]
          unfold p_impl_Wear_clear
          rw [getK_E hb, getK_E (by rw [List.length_set]; omega), wrap_sm _ (by omega) (by omega)]
          rfl
    · rw [if_neg (by simpa using hg), if_neg hg]; rfl
  · rw [if_neg ok, if_neg ok]; rfl
theorem pl_sLM (w : Wear) : p_spec_LevelMove w = some (lvl w) := by
  unfold p_spec_LevelMove lvl
  rw [pl_sW, callK_some]
  by_cases ok : okW w = true
  · obtain ⟨h1, h2, h3, h4, h5⟩ := okW_iff.mp ok
    rw [if_pos ok, if_pos ok]
    unfold p_spec_NeedsLevelling
    rw [pl_sGap ok, callK_some, callK_some]
    by_cases hg : gapV w.Erases w.Bad > w.Bound
    · rw [if_pos (by simpa using hg), if_pos hg]
      have hb := stB_in hg h4.1
      have hE := ea_okW ok (stB w).toNat (by omega)
      rw [Int.toNat_of_nonneg hb.1] at hE
      have hcl : p_spec_l12Own w = some (w.Bound, w.Erases, w.Bad, w.Content) := by
        unfold p_spec_l12Own p_spec_l00Own
        rw [grd_pos (appOk_of _ _ (by omega)), callK_some, grd_pos (appOk_of _ _ (by omega)), grd_pos (appOk_of _ _ (by omega)), callK_some]
      rw [hcl, callK_some]
      dsimp only
      rw [pl_sPS _ _ _ (by omega) (by simp), callK_some, show stat w.Erases w.Bad [] = stB w from rfl, getK_E (by omega)]
      by_cases hc : ea w.Content (stB w) = 0
      · rw [if_neg (by simpa using hc), if_neg (by simpa using hc)]
        unfold p_spec_l12Erase
        rw [getK_E hb, getK_E (by omega), wrap_sm _ (by omega) (by omega)]
        rfl
      · rw [if_pos hc, if_pos hc, pl_sfree ok, callK_some]
        have hn := nums_len w.Erases.length (freeP w)
        rw [pl_sPF _ _ _ (by omega) (by omega), callK_some, show pf w.Erases (nums w.Erases.length (freeP w)) false = cho w false from rfl]
        by_cases h0 : cho w false < 0
        · rw [if_pos h0, if_pos h0]; rfl
        · have hi := cho_in h0
          rw [if_neg h0, if_neg h0, getK_E (by omega)]
          unfold p_spec_l12Erase
          rw [getK_E hb, getK_E (by rw [List.length_set]; omega), wrap_sm _ (by omega) (by omega)]
          rfl
    · rw [if_neg (by simpa using hg), if_neg hg]; rfl
  · rw [if_neg ok, if_neg ok]; rfl
/-! ### What is kept -/
def ind (p : Prop) [Decidable p] : Int := if p then 1 else 0
theorem count_set (z : Int) : ∀ (l : List Int) (i : Nat) (a : Int) (h : i < l.length), ((l.set i a).count z : Int) = (l.count z : Int) - ind (l[i] = z) + ind (a = z)
  | [], i, a, h => by simp at h
  | x :: l, 0, a, h => by
    simp only [List.set_cons_zero, List.count_cons, List.getElem_cons_zero, ind, beq_iff_eq]
    split <;> split <;> simp_all <;> omega
  | x :: l, i + 1, a, h => by
    have := count_set z l i a (by simpa using h)
    simp only [List.set_cons_succ, List.count_cons, List.getElem_cons_succ]
    push_cast
    rw [this]
    omega
def dif (W X : List Int) (i : Nat) (c : Int) : Int := ((W.take i).count c : Int) - ((X.take i).count c : Int)
theorem dif_s {W X : List Int} {i : Nat} (h1 : i < W.length) (h2 : i < X.length) (c : Int) : dif W X (i + 1) c = dif W X i c + ind (W[i] = c) - ind (X[i] = c) := by
  unfold dif ind
  rw [List.take_succ_eq_append_getElem h1, List.take_succ_eq_append_getElem h2, List.count_append, List.count_append, List.count_singleton, List.count_singleton]
  simp only [beq_iff_eq]
  split <;> split <;> omega
def D3 (W X : List Int) (i : Nat) : List Int := [dif W X i 0, dif W X i 1, dif W X i 2]
theorem D3_step {W X : List Int} {i : Nat} {R : Type} (h1 : i < W.length) (h2 : i < X.length) (hl : i ≤ 1000) (hw : 0 ≤ W[i] ∧ W[i] ≤ 2) (hx : 0 ≤ X[i] ∧ X[i] ≤ 2) (k : List Int → Option R) :
    (getK (D3 W X i) W[i] fun x51 => getK ((D3 W X i).set (Int.toNat W[i]) (IntKind.i64.wrap (x51 + 1))) X[i] fun x52 => k (((D3 W X i).set (Int.toNat W[i]) (IntKind.i64.wrap (x51 + 1))).set (Int.toNat X[i]) (IntKind.i64.wrap (x52 - 1)))) = k (D3 W X (i + 1)) := by
  have bd : ∀ c, -1000 ≤ dif W X i c ∧ dif W X i c ≤ 1000 := fun c => by
    unfold dif
    have a1 := List.count_le_length (a := c) (l := W.take i)
    have a2 := List.count_le_length (a := c) (l := X.take i)
    rw [List.length_take] at a1 a2
    omega
  have s0 := dif_s h1 h2 0
  have s1 := dif_s h1 h2 1
  have s2 := dif_s h1 h2 2
  have b0 := bd 0
  have b1 := bd 1
  have b2 := bd 2
  generalize W[i] = a at *
  generalize X[i] = c at *
  have ha : a = 0 ∨ a = 1 ∨ a = 2 := by omega
  have hc : c = 0 ∨ c = 1 ∨ c = 2 := by omega
  have wr : ∀ v : Int, -1002 ≤ v → v ≤ 1002 → IntKind.i64.wrap v = v := fun v h1 h2 => wrap_sm _ (by omega) (by omega)
  unfold D3
  generalize dif W X (i + 1) 0 = f0 at *
  generalize dif W X (i + 1) 1 = f1 at *
  generalize dif W X (i + 1) 2 = f2 at *
  generalize dif W X i 0 = d0 at *
  generalize dif W X i 1 = d1 at *
  generalize dif W X i 2 = d2 at *
  have w0 := wr (d0 + 1) (by omega) (by omega)
  have w1 := wr (d1 + 1) (by omega) (by omega)
  have w2 := wr (d2 + 1) (by omega) (by omega)
  have x0 := wr (d0 - 1) (by omega) (by omega)
  have x1 := wr (d1 - 1) (by omega) (by omega)
  have x2 := wr (d2 - 1) (by omega) (by omega)
  have y0 := wr d0 (by omega) (by omega)
  have y1 := wr d1 (by omega) (by omega)
  have y2 := wr d2 (by omega) (by omega)
  rcases ha with rfl | rfl | rfl <;> rcases hc with rfl | rfl | rfl <;> simp [ind] at s0 s1 s2 <;> subst s0 <;> subst s1 <;> subst s2 <;> simp [getK, getN, w0, w1, w2, x0, x1, x2, y0, y1, y2] <;> rfl
theorem ints_self (l : List Int) (h : l.length ≤ 1000) : p_laws_w5Ints l l = some true := by
  unfold p_laws_w5Ints
  rw [if_neg (by simp), grd_pos (by omega)]
  exact forK_rule (fun _ _ => True) (fun i hi s _ nx hnx => by rw [getK_lt hi, if_neg (by simp)]; exact hnx () trivial) (fun s _ => rfl) () trivial
theorem ct_okW {w : Wear} (h : okW w = true) (i : Nat) (hi : i < w.Content.length) : 0 ≤ w.Content[i] ∧ w.Content[i] ≤ 2 := by
  obtain ⟨_, _, h3, _, h5⟩ := okW_iff.mp h
  have := h5 i (by omega)
  unfold okR at this
  simp only [Bool.and_eq_true, inR_iff] at this
  have e : w.Content.getD i 0 = w.Content[i] := by simp [List.getD, hi]
  rw [e] at this
  exact this.2.1
/-- What the content comes to: the same kinds as before. -/
theorem kinds_ok {w : Wear} (ok : okW w = true) (hg : gapV w.Erases w.Bad > w.Bound) {X : List Int} (hX : (ea w.Content (stB w) ≠ 0 ∧ 0 ≤ cho w false ∧ X = (w.Content.set (cho w false).toNat (ea w.Content (stB w))).set (stB w).toNat 0) ∨ (ea w.Content (stB w) = 0 ∧ X = w.Content.set (stB w).toNat 0)) :
    X.length = w.Content.length ∧ (∀ i (hi : i < X.length), 0 ≤ X[i] ∧ X[i] ≤ 2) ∧ ∀ c, X.count c = w.Content.count c := by
  obtain ⟨h1, h2, h3, h4, h5⟩ := okW_iff.mp ok
  have hb := stB_in hg h4.1
  obtain ⟨b, hb0⟩ := Int.eq_ofNat_of_zero_le hb.1
  rw [hb0] at hX hb
  rw [Int.toNat_natCast] at hX
  have hbl : b < w.Content.length := by omega
  have eb : ea w.Content (b : Int) = w.Content[b] := by unfold ea; simp [List.getD, hbl]
  rw [eb] at hX
  rcases hX with ⟨hc, h0, rfl⟩ | ⟨hc, rfl⟩
  · obtain ⟨⟨t, et, ht, hf⟩, _⟩ := cho_ok h0
    rw [et, Int.toNat_natCast]
    have htl : t < w.Content.length := by omega
    have hz : w.Content[t] = 0 := by
      unfold freeP at hf
      simp only [Bool.and_eq_true, beq_iff_eq] at hf
      have := hf.2
      simpa [List.getD, htl] using this
    have hne : t ≠ b := fun e => by subst e; exact hc hz
    refine ⟨by simp, fun i hi => ?_, fun c => ?_⟩
    · rw [List.getElem_set]
      split
      · omega
      · rw [List.getElem_set]
        split
        · exact ct_okW ok b hbl
        · exact ct_okW ok i (by simpa using hi)
    · have e1 := count_set c (w.Content.set t w.Content[b]) b 0 (by simpa using hbl)
      have e2 := count_set c w.Content t w.Content[b] htl
      rw [List.getElem_set_ne hne] at e1
      rw [hz] at e2
      omega
  · refine ⟨by simp, fun i hi => ?_, fun c => ?_⟩
    · rw [List.getElem_set]
      split
      · omega
      · exact ct_okW ok i (by simpa using hi)
    · have e1 := count_set c w.Content b 0 hbl
      rw [hc] at e1
      omega
theorem levelMove_ok {code : List Int} (h : ∀ x ∈ code, 0 ≤ x ∧ x ≤ 255) (hl : code.length ≤ 1048576) : ∃ w, p_spec_DrawLevelMove code = some w := by
  unfold p_spec_DrawLevelMove
  obtain ⟨s, e0, o0⟩ := from_ok h hl
  obtain ⟨r, e1, _⟩ := wear_ok (b := 100) (by omega) (o0.le (by omega))
  rw [e0, callK_some, e1, callK_some]
  exact ⟨_, rfl⟩
theorem pl_law (code : List Int) (hk : okL u8r code) : p_laws_FnLevelMoves code = some true := by
  unfold p_laws_FnLevelMoves
  by_cases hl : (code.length : Int) > 400
  · rw [if_pos hl]
  rw [if_neg hl]
  obtain ⟨w, e⟩ := levelMove_ok hk.2 (by omega)
  rw [e, callK_some, pl_iLM, callK_some, pl_sLM, callK_some, if_neg (by simp), pl_iW, callK_some, pl_sW, callK_some, if_pos (by simp), callK_some]
  by_cases ok : okW w = true
  · obtain ⟨h1, h2, h3, h4, h5⟩ := okW_iff.mp ok
    rw [if_pos ok]
    unfold p_impl_NeedsLevelling
    rw [pl_iGap ok, callK_some, callK_some]
    unfold lvl
    rw [if_pos ok]
    by_cases hg : gapV w.Erases w.Bad > w.Bound
    · rw [if_pos hg, decide_eq_true hg]
      by_cases h40 : ¬ ea w.Content (stB w) = 0 ∧ cho w false < 0
      · rw [if_pos h40.1, if_pos h40.2, if_pos (by simp)]; rfl
      · obtain ⟨X, eX, hX⟩ : ∃ X : List Int, (if ¬ ea w.Content (stB w) = 0 then if cho w false < 0 then (nil0, (4 : Int)) else (cl w (w.Content.set (cho w false).toNat (ea w.Content (stB w))), 0) else (cl w w.Content, 0)) = (⟨w.Erases.set (stB w).toNat (ea w.Erases (stB w) + 1), w.Bad, X, w.Bound⟩, 0) ∧
            ((ea w.Content (stB w) ≠ 0 ∧ 0 ≤ cho w false ∧ X = (w.Content.set (cho w false).toNat (ea w.Content (stB w))).set (stB w).toNat 0) ∨ (ea w.Content (stB w) = 0 ∧ X = w.Content.set (stB w).toNat 0)) := by
          by_cases hc : ea w.Content (stB w) = 0
          · rw [if_neg (by simpa using hc)]
            exact ⟨_, rfl, .inr ⟨hc, rfl⟩⟩
          · have h0 : ¬ cho w false < 0 := fun h => h40 ⟨hc, h⟩
            rw [if_pos hc, if_neg h0]
            exact ⟨_, rfl, .inl ⟨hc, by omega, rfl⟩⟩
        rw [eX, if_neg (by simp)]
        obtain ⟨k1, k2, k3⟩ := kinds_ok ok hg hX
        have hb := stB_in hg h4.1
        rw [pl_iPS _ _ _ (by omega) (by simp), callK_some, show stat w.Erases w.Bad [] = stB w from rfl, if_pos rfl, if_neg (by omega), if_neg (by omega)]
        dsimp only
        rw [if_neg (by simp), if_neg (by omega), grd_pos (by omega)]
        have hE := ea_okW ok (stB w).toNat (by omega)
        rw [Int.toNat_of_nonneg hb.1] at hE
        refine forK_rule (fun i v => v = D3 w.Content X i) (fun i hi v hv nx hnx => ?_) (fun v hv => ?_) _ (by simp [D3, dif])
        · subst hv
          have hiw : i < w.Content.length := by omega
          have hix : i < X.length := by omega
          have gx : ∀ {R : Type} (k : Int → Option R), getK X (i : Int) k = k X[i] := fun k => getK_lt hix k
          have gw : ∀ {R : Type} (k : Int → Option R), getK w.Content (i : Int) k = k w.Content[i] := fun k => getK_lt hiw k
          have ge : ∀ {R : Type} (k : Int → Option R), getK (w.Erases.set (stB w).toNat (ea w.Erases (stB w) + 1)) (i : Int) k = k ((w.Erases.set (stB w).toNat (ea w.Erases (stB w) + 1))[i]'(by simpa using hi)) := fun k => getK_lt (by simpa using hi) k
          have hstep := D3_step (R := Bool) hiw hix (by omega) (ct_okW ok i hiw) (k2 i hix) nx
          have hx := k2 i hix
          have fin := hnx (D3 w.Content X (i + 1)) rfl
          by_cases hib : (i : Int) = stB w
          · have e1 : w.Erases[i] = ea w.Erases (stB w) := by rw [← hib]; simp [ea, List.getD, hi]
            rw [if_pos hib, ge, List.getElem_set, if_pos (show (stB w).toNat = i by omega), e1, wrap_sm _ (by omega) (by omega), if_neg (by simp), gx, if_neg (by omega), if_neg (by omega), gw, hstep]
            exact fin
          · rw [if_neg hib, ge, List.getElem_set, if_neg (show ¬ (stB w).toNat = i by omega), if_neg (by simp), gx, if_neg (by omega), if_neg (by omega), gw, hstep]
            exact fin
        · have hz : D3 w.Content X w.Erases.length = [0, 0, 0] := by
            unfold D3 dif
            rw [List.take_of_length_le (by omega), List.take_of_length_le (by omega), k3, k3, k3]
            simp
          rw [hv, hz, ints_self _ (by simp), callK_some]
    · rw [if_neg hg, decide_eq_false hg, if_pos (by simp)]; rfl
  · rw [if_neg ok]
theorem f_law (code : List Int) (hk : okL u8r code) : callL E 8 [.d (.arr (code.map rU))] [] = some (BO true, []) := L_laws_FnLevelMoves code (pl_law code hk)

end Go.Proofs.Ytjbddmmammgmjaa.T21

/- FnFtlMap: what its functions come to, and the row; conditions: none. -/
import Derived.Test.YtjbddmmammgmjaaT14
import Derived.Test.YtjbddmmammgmjaaEz
import Derived.Test.YtjbddmmammgmjaaRows
import Derived.WalkKit
import Derived.ProofKit
import Derived.OpenShut
import Derived.ShutString
import Derived.ChangeOld
import Derived.Below
import Derived.SizedLaws
namespace Go.Proofs.Ytjbddmmammgmjaa.T14
open Go.Proofs.YtjbddmmammgmjaaE
set_option maxRecDepth 100000
set_option linter.unusedVariables false
set_option linter.unusedSimpArgs false

noncomputable def p_spec_l00In (a_0 : Int) (a_1 : Int) (a_2 : Int) : Option Bool :=
  if a_0 ≥ a_1 then
    some (decide (a_0 ≤ a_2))
  else
    some false

set_option maxHeartbeats 4000000 in
theorem L_spec_l00In (a_0 : Int) (a_1 : Int) (a_2 : Int) {r : Bool} (h : p_spec_l00In a_0 a_1 a_2 = some r) : callL E 112 [IN a_0, IN a_1, IN a_2] ([] : Fo) = some (BO r, ([] : Fo)) := by
  unfold p_spec_l00In at h
  refine callW (fu := Try.f112) rfl rfl rfl NN ?_
  intro lp cl hlp hcl
  conv => lhs; whnf
  cases hb1 : (decide (a_0 ≥ a_1))
  · replace h := ifF h (decF hb1)
    conv => lhs; whnf
    try (rw [hb1]; conv => lhs; whnf)
    try (rw [hb1]; conv => lhs; whnf)
    try (rw [hb1]; conv => lhs; whnf)
    obtain rfl := Option.some.inj h
    show _ = _
    kernel_rfl
  · replace h := ifT h (decT hb1)
    conv => lhs; whnf
    try (rw [hb1]; conv => lhs; whnf)
    try (rw [hb1]; conv => lhs; whnf)
    try (rw [hb1]; conv => lhs; whnf)
    obtain rfl := Option.some.inj h
    show _ = _
    kernel_rfl
theorem pl_l00In (n lo hi : Int) : p_spec_l00In n lo hi = some (inR n lo hi) := by
  unfold p_spec_l00In inR
  split
  · rename_i h; simp [h]
  · rename_i h; simp [h]


noncomputable def p_impl_within (a_0 : Int) (a_1 : Int) (a_2 : Int) : Option Bool :=
  if a_0 ≥ a_1 then
    some (decide (a_0 ≤ a_2))
  else
    some false

set_option maxHeartbeats 4000000 in
theorem L_impl_within (a_0 : Int) (a_1 : Int) (a_2 : Int) {r : Bool} (h : p_impl_within a_0 a_1 a_2 = some r) : callL E 107 [IN a_0, IN a_1, IN a_2] ([] : Fo) = some (BO r, ([] : Fo)) := by
  unfold p_impl_within at h
  refine callW (fu := Try.f107) rfl rfl rfl NN ?_
  intro lp cl hlp hcl
  conv => lhs; whnf
  cases hb1 : (decide (a_0 ≥ a_1))
  · replace h := ifF h (decF hb1)
    conv => lhs; whnf
    try (rw [hb1]; conv => lhs; whnf)
    try (rw [hb1]; conv => lhs; whnf)
    try (rw [hb1]; conv => lhs; whnf)
    obtain rfl := Option.some.inj h
    show _ = _
    kernel_rfl
  · replace h := ifT h (decT hb1)
    conv => lhs; whnf
    try (rw [hb1]; conv => lhs; whnf)
    try (rw [hb1]; conv => lhs; whnf)
    try (rw [hb1]; conv => lhs; whnf)
    obtain rfl := Option.some.inj h
    show _ = _
    kernel_rfl
theorem pl_within (n lo hi : Int) : p_impl_within n lo hi = some (inR n lo hi) := by
  unfold p_impl_within inR
  split
  · rename_i h; simp [h]
  · rename_i h; simp [h]



structure Sl00Src where
  Code : List Int
  At : Int
  Seed : Int
def rSl00Src (x : Sl00Src) : List D := [.arr (x.Code.map rU), dI x.At, .lit (.int .u64 x.Seed)]

noncomputable def p_spec_l00From (a_0 : List Int) : Option Sl00Src :=
  some (⟨a_0, 0, 0⟩ : Sl00Src)

set_option maxHeartbeats 4000000 in
theorem L_spec_l00From (a_0 : List Int) {r : Sl00Src} (h : p_spec_l00From a_0 = some r) : callL E 103 [.d (.arr (a_0.map rU))] ([] : Fo) = some (.bp 0 0, ([some (.box [.d (.arr (r.Code.map rU)), IN r.At, .d (.lit (.int .u64 r.Seed))])] : Fo)) := by
  unfold p_spec_l00From at h
  refine callW (fu := Try.f103) rfl rfl rfl NN ?_
  intro lp cl hlp hcl
  conv => lhs; whnf
  obtain rfl := Option.some.inj h
  show _ = _
  kernel_rfl

noncomputable def p_spec_l00Src_next (a_0 : Sl00Src) : Option (Int × Sl00Src) :=
  if a_0.At < (a_0.Code.length : Int) then
    getK a_0.Code a_0.At fun x2 =>
    if (IntKind.i64.wrap (a_0.At + 1)) ≤ (a_0.Code.length : Int) then
      some ((IntKind.i64.wrap x2), (⟨a_0.Code, (IntKind.i64.wrap (a_0.At + 1)), (IntKind.u64.wrap ((IntKind.u64.wrap ((IntKind.u64.wrap (a_0.Seed * 6364136223846793005)) + (IntKind.u64.wrap (IntKind.i64.wrap x2)))) + 1442695040888963407))⟩ : Sl00Src))
    else
      some ((IntKind.i64.wrap (andK .u64 (Int.fdiv (IntKind.u64.wrap ((IntKind.u64.wrap ((IntKind.u64.wrap (a_0.Seed * 6364136223846793005)) + (IntKind.u64.wrap (IntKind.i64.wrap x2)))) + 1442695040888963407)) (2 ^ (min (Int.toNat 40) IntKind.u64.bits))) 255)), (⟨a_0.Code, (IntKind.i64.wrap (a_0.At + 1)), (IntKind.u64.wrap ((IntKind.u64.wrap ((IntKind.u64.wrap (a_0.Seed * 6364136223846793005)) + (IntKind.u64.wrap (IntKind.i64.wrap x2)))) + 1442695040888963407))⟩ : Sl00Src))
  else
    if (IntKind.i64.wrap (a_0.At + 1)) ≤ (a_0.Code.length : Int) then
      some (0, (⟨a_0.Code, (IntKind.i64.wrap (a_0.At + 1)), (IntKind.u64.wrap ((IntKind.u64.wrap ((IntKind.u64.wrap (a_0.Seed * 6364136223846793005)) + (IntKind.u64.wrap 0))) + 1442695040888963407))⟩ : Sl00Src))
    else
      some ((IntKind.i64.wrap (andK .u64 (Int.fdiv (IntKind.u64.wrap ((IntKind.u64.wrap ((IntKind.u64.wrap (a_0.Seed * 6364136223846793005)) + (IntKind.u64.wrap 0))) + 1442695040888963407)) (2 ^ (min (Int.toNat 40) IntKind.u64.bits))) 255)), (⟨a_0.Code, (IntKind.i64.wrap (a_0.At + 1)), (IntKind.u64.wrap ((IntKind.u64.wrap ((IntKind.u64.wrap (a_0.Seed * 6364136223846793005)) + (IntKind.u64.wrap 0))) + 1442695040888963407))⟩ : Sl00Src))

set_option maxHeartbeats 4000000 in
theorem L_spec_l00Src_next (a_0 : Sl00Src) {r : (Int × Sl00Src)} (h : p_spec_l00Src_next a_0 = some r) : callL E 217 [.bp 0 0] ([some (.box [.d (.arr (a_0.Code.map rU)), IN a_0.At, .d (.lit (.int .u64 a_0.Seed))])] : Fo) = some (IN r.1, ([some (.box [.d (.arr (r.2.Code.map rU)), IN r.2.At, .d (.lit (.int .u64 r.2.Seed))])] : Fo)) := by
  unfold p_spec_l00Src_next at h
  refine callW (fu := Try.f217) rfl rfl rfl NN ?_
  intro lp cl hlp hcl
  conv => lhs; whnf
  try rw [len_of (l := a_0.Code) (r := rU)]
  cases hb1 : (decide (a_0.At < (a_0.Code.length : Int)))
  · replace h := ifF h (decF hb1)
    conv => lhs; whnf
    try rw [len_of (l := a_0.Code) (r := rU)]
    cases hb4 : (decide ((IntKind.i64.wrap (a_0.At + 1)) ≤ (a_0.Code.length : Int)))
    · replace h := ifF h (decF hb4)
      conv => lhs; whnf
      obtain rfl := Option.some.inj h
      show _ = _
      kernel_rfl
    · replace h := ifT h (decT hb4)
      conv => lhs; whnf
      obtain rfl := Option.some.inj h
      show _ = _
      kernel_rfl
  · replace h := ifT h (decT hb1)
    conv => lhs; whnf
    obtain ⟨x2, hq_x2, hx_x2', h⟩ := getK_inv h
    have hx_x2 := get_of (r := rU) hx_x2'
    try (rw [decide_eq_true hq_x2]; conv => lhs; whnf)
    rw [hx_x2]
    conv => lhs; whnf
    rw [hx_x2]
    conv => lhs; whnf
    try rw [len_of (l := a_0.Code) (r := rU)]
    cases hb3 : (decide ((IntKind.i64.wrap (a_0.At + 1)) ≤ (a_0.Code.length : Int)))
    · replace h := ifF h (decF hb3)
      conv => lhs; whnf
      obtain rfl := Option.some.inj h
      show _ = _
      kernel_rfl
    · replace h := ifT h (decT hb3)
      conv => lhs; whnf
      obtain rfl := Option.some.inj h
      show _ = _
      kernel_rfl

noncomputable def p_spec_l00Src_pick (a_0 : Int) (a_1 : Sl00Src) : Option (Int × Sl00Src) :=
  if a_0 ≤ 1 then
    some (0, a_1)
  else
    callK (p_spec_l00Src_next a_1) fun y2 =>
    if a_0 > 200 then
      callK (p_spec_l00Src_next y2.2) fun y4 =>
      grd (a_0 ≠ 0) <|
      some ((Int.tmod (IntKind.i64.wrap ((IntKind.i64.wrap (y2.1 * 256)) + y4.1)) a_0), y4.2)
    else
      grd (a_0 ≠ 0) <|
      some ((Int.tmod y2.1 a_0), y2.2)

set_option maxHeartbeats 4000000 in
theorem L_spec_l00Src_pick (a_0 : Int) (a_1 : Sl00Src) {r : (Int × Sl00Src)} (h : p_spec_l00Src_pick a_0 a_1 = some r) : callL E 122 [.bp 0 0, IN a_0] ([some (.box [.d (.arr (a_1.Code.map rU)), IN a_1.At, .d (.lit (.int .u64 a_1.Seed))])] : Fo) = some (IN r.1, ([some (.box [.d (.arr (r.2.Code.map rU)), IN r.2.At, .d (.lit (.int .u64 r.2.Seed))])] : Fo)) := by
  unfold p_spec_l00Src_pick at h
  refine callW (fu := Try.f122) rfl rfl rfl NN ?_
  intro lp cl hlp hcl
  conv => lhs; whnf
  cases hb1 : (decide (a_0 ≤ 1))
  · replace h := ifF h (decF hb1)
    conv => lhs; whnf
    obtain ⟨y2, h_y2, h⟩ := callK_inv h
    rw [cl_eq hcl (L_spec_l00Src_next a_1 h_y2)]
    rotate_left
    · show _ = _
      kernel_rfl
    · show _ = _
      kernel_rfl
    conv => lhs; whnf
    cases hb3 : (decide (a_0 > 200))
    · replace h := ifF h (decF hb3)
      conv => lhs; whnf
      obtain ⟨hg5, h⟩ := grd_inv h
      rw [rem_run _ _ _ _ hg5]
      conv => lhs; whnf
      obtain rfl := Option.some.inj h
      show _ = _
      kernel_rfl
    · replace h := ifT h (decT hb3)
      conv => lhs; whnf
      obtain ⟨y4, h_y4, h⟩ := callK_inv h
      rw [cl_eq hcl (L_spec_l00Src_next y2.2 h_y4)]
      rotate_left
      · show _ = _
        kernel_rfl
      · show _ = _
        kernel_rfl
      conv => lhs; whnf
      obtain ⟨hg6, h⟩ := grd_inv h
      rw [rem_run _ _ _ _ hg6]
      conv => lhs; whnf
      obtain rfl := Option.some.inj h
      show _ = _
      kernel_rfl
  · replace h := ifT h (decT hb1)
    conv => lhs; whnf
    obtain rfl := Option.some.inj h
    show _ = _
    kernel_rfl
/-- A source of choices from which as many may still be drawn. -/
structure SrcOk (b : Int) (s : Sl00Src) : Prop where
  code : ∀ x ∈ s.Code, 0 ≤ x ∧ x ≤ 255
  len : s.Code.length ≤ 1048576
  lo : 0 ≤ s.At
  hi : s.At + b ≤ 4611686018427387904
theorem SrcOk.le {b c : Int} {s : Sl00Src} (h : SrcOk b s) (hc : c ≤ b) : SrcOk c s := ⟨h.1, h.2, h.3, by have := h.4; omega⟩
theorem nxV_in (sd : Int) : 0 ≤ IntKind.i64.wrap (andK .u64 sd 255) ∧ IntKind.i64.wrap (andK .u64 sd 255) ≤ 255 := by
  unfold andK
  generalize BitVec.ofInt IntKind.u64.bits sd = a
  have h1 : (a &&& BitVec.ofInt IntKind.u64.bits 255).toNat ≤ 255 := by
    rw [BitVec.toNat_and]
    exact Nat.le_trans Nat.and_le_right (by decide)
  generalize (a &&& BitVec.ofInt IntKind.u64.bits 255).toNat = m at h1
  have e1 : IntKind.u64.wrap (m : Int) = m := by unfold IntKind.wrap; simp [IntKind.signed, IntKind.bits]; omega
  rw [e1, wrap_sm _ (by omega) (by omega)]
  omega
theorem next_ok {b : Int} {s : Sl00Src} (hb : 0 ≤ b) (h : SrcOk (b + 1) s) : ∃ v s', p_spec_l00Src_next s = some (v, s') ∧ (0 ≤ v ∧ v ≤ 255) ∧ SrcOk b s' := by
  obtain ⟨h1, h2, h3, h4⟩ := h
  have hw : IntKind.i64.wrap (s.At + 1) = s.At + 1 := wrap_sm _ (by omega) (by omega)
  unfold p_spec_l00Src_next
  rw [hw]
  split
  · rename_i hlt
    rw [getK_in h3 hlt]
    have hb := h1 _ (List.getElem_mem (show s.At.toNat < s.Code.length by omega))
    rw [if_pos (by omega)]
    exact ⟨_, _, rfl, by rw [wrap_sm _ (by omega) (by omega)]; exact hb, h1, h2, by show 0 ≤ s.At + 1; omega, by show s.At + 1 + b ≤ _; omega⟩
  · rename_i hlt
    rw [if_neg (by omega)]
    exact ⟨_, _, rfl, nxV_in _, h1, h2, by show 0 ≤ s.At + 1; omega, by show s.At + 1 + b ≤ _; omega⟩
theorem pick_ok {b : Int} {s : Sl00Src} (m : Int) (hb : 0 ≤ b) (h : SrcOk (b + 2) s) : ∃ r s', p_spec_l00Src_pick m s = some (r, s') ∧ (0 ≤ r ∧ (1 < m → r < m) ∧ (m ≤ 1 → r = 0)) ∧ SrcOk b s' := by
  unfold p_spec_l00Src_pick
  split
  · rename_i hm
    exact ⟨0, s, rfl, ⟨by omega, fun h => by omega, fun _ => rfl⟩, h.le (by omega)⟩
  · rename_i hm
    obtain ⟨v1, s1, e1, b1, o1⟩ := next_ok (b := b + 1) (by omega) (h.le (by omega))
    rw [e1, callK_some]
    split
    · obtain ⟨v2, s2, e2, b2, o2⟩ := next_ok hb o1
      rw [e2, callK_some, grd_pos (by omega)]
      have w1 : IntKind.i64.wrap (v1 * 256) = v1 * 256 := wrap_sm _ (by omega) (by omega)
      have w2 : IntKind.i64.wrap (v1 * 256 + v2) = v1 * 256 + v2 := wrap_sm _ (by omega) (by omega)
      refine ⟨_, _, rfl, ?_, o2⟩
      show 0 ≤ Int.tmod (IntKind.i64.wrap (IntKind.i64.wrap (v1 * 256) + v2)) m ∧ _
      rw [w1, w2]
      exact ⟨Int.tmod_nonneg _ (by omega), fun _ => Int.tmod_lt_of_pos _ (by omega), fun h3 => by omega⟩
    · rw [grd_pos (by omega)]
      exact ⟨_, _, rfl, ⟨Int.tmod_nonneg _ b1.1, fun _ => Int.tmod_lt_of_pos _ (by omega), fun h3 => by omega⟩, o1.le (by omega)⟩
theorem from_ok {code : List Int} (h : ∀ x ∈ code, 0 ≤ x ∧ x ≤ 255) (hl : code.length ≤ 1048576) : ∃ s, p_spec_l00From code = some s ∧ SrcOk 1099511627776 s :=
  ⟨_, rfl, h, hl, by show (0 : Int) ≤ 0; omega, by show (0 : Int) + 1099511627776 ≤ _; omega⟩

noncomputable def p_spec_l00Src_among (a_0 : List Int) (a_1 : Sl00Src) : Option (Int × Sl00Src) :=
  callK (p_spec_l00Src_pick (a_0.length : Int) a_1) fun y1 =>
  getK a_0 y1.1 fun x2 =>
  some (x2, y1.2)

set_option maxHeartbeats 4000000 in
theorem L_spec_l00Src_among (a_0 : List Int) (a_1 : Sl00Src) {r : (Int × Sl00Src)} (h : p_spec_l00Src_among a_0 a_1 = some r) : callL E 105 [.bp 0 0, .d (.arr (a_0.map rI))] ([some (.box [.d (.arr (a_1.Code.map rU)), IN a_1.At, .d (.lit (.int .u64 a_1.Seed))])] : Fo) = some (IN r.1, ([some (.box [.d (.arr (r.2.Code.map rU)), IN r.2.At, .d (.lit (.int .u64 r.2.Seed))])] : Fo)) := by
  unfold p_spec_l00Src_among at h
  refine callW (fu := Try.f105) rfl rfl rfl NN ?_
  intro lp cl hlp hcl
  conv => lhs; whnf
  try rw [len_of (l := a_0) (r := rI)]
  obtain ⟨y1, h_y1, h⟩ := callK_inv h
  rw [cl_eq hcl (L_spec_l00Src_pick (a_0.length : Int) a_1 h_y1)]
  rotate_left
  · show _ = _
    kernel_rfl
  · show _ = _
    kernel_rfl
  conv => lhs; whnf
  obtain ⟨x2, hq_x2, hx_x2', h⟩ := getK_inv h
  have hx_x2 := get_of (r := rI) hx_x2'
  try (rw [decide_eq_true hq_x2]; conv => lhs; whnf)
  rw [hx_x2]
  conv => lhs; whnf
  rw [hx_x2]
  conv => lhs; whnf
  obtain rfl := Option.some.inj h
  show _ = _
  kernel_rfl
theorem among_ok {b : Int} {s : Sl00Src} (l : List Int) (hl : 0 < l.length) (hb : 0 ≤ b) (h : SrcOk (b + 2) s) : ∃ r s', p_spec_l00Src_among l s = some (r, s') ∧ r ∈ l ∧ SrcOk b s' := by
  obtain ⟨r, s1, e1, ⟨b1, b2, b3⟩, o1⟩ := pick_ok (l.length : Int) hb h
  unfold p_spec_l00Src_among
  have hr : r < (l.length : Int) := by
    rcases Nat.lt_or_ge 1 l.length with h | h
    · exact b2 (by omega)
    · have := b3 (by omega); omega
  rw [e1, callK_some, getK_in b1 hr]
  exact ⟨_, _, rfl, List.getElem_mem _, o1⟩

noncomputable def p_spec_l00Src_one (a_0 : Int) (a_1 : Sl00Src) : Option (Bool × Sl00Src) :=
  callK (p_spec_l00Src_pick a_0 a_1) fun y1 =>
  some ((y1.1 == 0), y1.2)

set_option maxHeartbeats 4000000 in
theorem L_spec_l00Src_one (a_0 : Int) (a_1 : Sl00Src) {r : (Bool × Sl00Src)} (h : p_spec_l00Src_one a_0 a_1 = some r) : callL E 130 [.bp 0 0, IN a_0] ([some (.box [.d (.arr (a_1.Code.map rU)), IN a_1.At, .d (.lit (.int .u64 a_1.Seed))])] : Fo) = some (BO r.1, ([some (.box [.d (.arr (r.2.Code.map rU)), IN r.2.At, .d (.lit (.int .u64 r.2.Seed))])] : Fo)) := by
  unfold p_spec_l00Src_one at h
  refine callW (fu := Try.f130) rfl rfl rfl NN ?_
  intro lp cl hlp hcl
  conv => lhs; whnf
  obtain ⟨y1, h_y1, h⟩ := callK_inv h
  rw [cl_eq hcl (L_spec_l00Src_pick a_0 a_1 h_y1)]
  rotate_left
  · show _ = _
    kernel_rfl
  · show _ = _
    kernel_rfl
  conv => lhs; whnf
  obtain rfl := Option.some.inj h
  show _ = _
  kernel_rfl
theorem one_ok {b : Int} {s : Sl00Src} (m : Int) (hb : 0 ≤ b) (h : SrcOk (b + 2) s) : ∃ r s', p_spec_l00Src_one m s = some (r, s') ∧ SrcOk b s' := by
  obtain ⟨r, s1, e1, _, o1⟩ := pick_ok m hb h
  unfold p_spec_l00Src_one
  rw [e1, callK_some]
  exact ⟨_, _, rfl, o1⟩

noncomputable def p_laws_c2Big (a_0 : List Int) (a_1 : List Int) : Option Bool :=
  if (a_0.length : Int) > 1048576 then
    some true
  else
    some (decide ((a_1.length : Int) > 1048576))

set_option maxHeartbeats 4000000 in
theorem L_laws_c2Big (a_0 : List Int) (a_1 : List Int) {r : Bool} (h : p_laws_c2Big a_0 a_1 = some r) : callL E 19 [.d (.arr (a_0.map rU)), .d (.arr (a_1.map rU))] ([] : Fo) = some (BO r, ([] : Fo)) := by
  unfold p_laws_c2Big at h
  refine callW (fu := Try.f19) rfl rfl rfl NN ?_
  intro lp cl hlp hcl
  conv => lhs; whnf
  try rw [len_of (l := a_0) (r := rU)]
  cases hb1 : (decide ((a_0.length : Int) > 1048576))
  · replace h := ifF h (decF hb1)
    conv => lhs; whnf
    try (rw [hb1]; conv => lhs; whnf)
    try rw [len_of (l := a_1) (r := rU)]
    try (rw [hb1]; conv => lhs; whnf)
    try (rw [hb1]; conv => lhs; whnf)
    obtain rfl := Option.some.inj h
    show _ = _
    kernel_rfl
  · replace h := ifT h (decT hb1)
    conv => lhs; whnf
    try (rw [hb1]; conv => lhs; whnf)
    try (rw [hb1]; conv => lhs; whnf)
    try (rw [hb1]; conv => lhs; whnf)
    obtain rfl := Option.some.inj h
    show _ = _
    kernel_rfl
theorem pl_big (code : List Int) : p_laws_c2Big code ([] : List Int) = some (decide ((code.length : Int) > 1048576)) := by
  unfold p_laws_c2Big
  split
  · rename_i h; rw [decide_eq_true h]
  · rename_i h; rw [decide_eq_false h]; rfl

noncomputable def p_spec_l09New (a_0 : Int) (a_1 : Int) (a_2 : Int) : Option ((List Int) × (List Bool)) :=
  grd (a_0 < 4611686018427387904) <|
  forI a_0 (fun (i5 : Nat) ((v6, v7) : ((List Int) × (List Bool))) (nx8 : ((List Int) × (List Bool)) → Option _) =>
    grd (appOk (v6.length + 1) 8 = true) <|
    grd (appOk (v7.length + 1) 1 = true) <|
    nx8 ((v6 ++ ([(-1)] : List Int)), (v7 ++ ([false] : List Bool)))) (([] : List Int), ([] : List Bool)) (fun ((v6, v7) : ((List Int) × (List Bool))) =>
    some (v6, v7))

set_option maxHeartbeats 4000000 in
theorem L_spec_l09New (a_0 : Int) (a_1 : Int) (a_2 : Int) {r : ((List Int) × (List Bool))} (h : p_spec_l09New a_0 a_1 a_2 = some r) : callL E 267 [IN a_0, IN a_1, IN a_2] ([] : Fo) = some (.agg [IN a_1, IN a_2, .sl 0, .sl 1], ([some (.arr 2 1 (r.1.map rI)), some (.arr 4 1 (r.2.map rB))] : Fo)) := by
  unfold p_spec_l09New at h
  refine callW (fu := Try.f267) rfl rfl rfl NN ?_
  intro lp cl hlp hcl
  conv => lhs; whnf
  obtain ⟨hl_i5, h⟩ := grd_inv h
  refine loop_forI hlp (n := a_0) hl_i5 (fun (i5 : Nat) ((v6, v7) : ((List Int) × (List Bool))) => ([IN a_0, .dead, .dead, .dead, .dead, .dead, .bp 0 0, .bp 1 0, IN (i5 : Int)] ++ List.replicate 19 .dead : List V)) (fun (i5 : Nat) ((v6, v7) : ((List Int) × (List Bool))) => ([some (.box [IN 0, IN 0, .d (.arr (([] : List Int).map rI)), .d (.arr (([] : List Bool).map rB))]), some (.box [IN a_1, IN a_2, .sl 2, .sl 3]), some (.arr 2 1 (v6.map rI)), some (.arr 4 1 (v7.map rB))] : Fo)) (fun (r : ((List Int) × (List Bool))) => ((.agg [IN a_1, IN a_2, .sl 0, .sl 1] : V), ([some (.arr 2 1 (r.1.map rI)), some (.arr 4 1 (r.2.map rB))] : Fo))) ?_ ?_ (([] : List Int), ([] : List Bool)) _ (fun kk => by kernel_rfl) h
  · clear h
    rintro next_nx8 nx8 i5 hi_i5 hnx8 ⟨v6, v7⟩ r h
    try dsimp only at h
    have hn_i5 : i5 < 4611686018427387904 := by omega
    have hd_i5 : (decide ((i5 : Int) < a_0)) = true := decide_eq_true (by omega)
    conv => lhs; whnf
    rw [hd_i5]
    conv => lhs; whnf
    obtain ⟨hg9, h⟩ := grd_inv h
    rw [app_eq hg9 ?h1 ?h2]
    case h1 => first | exact rfl | (simp only [List.length_map, List.length_cons, List.length_nil]; done) | (rw [List.length_map]; rfl)
    case h2 => exact rfl
    conv => lhs; whnf
    first | (rw [map_app_of (r := rI) (l := v6) (m := ([(-1)] : List Int)) ?hh]; case hh => exact rfl) | skip
    obtain ⟨hg10, h⟩ := grd_inv h
    rw [app_eq hg10 ?h1 ?h2]
    case h1 => first | exact rfl | (simp only [List.length_map, List.length_cons, List.length_nil]; done) | (rw [List.length_map]; rfl)
    case h2 => exact rfl
    conv => lhs; whnf
    first | (rw [map_app_of (r := rB) (l := v7) (m := ([false] : List Bool)) ?hh]; case hh => exact rfl) | skip
    rw [wrap_nat i5 (by have := hn_i5; omega)]
    exact hnx8 _ _ _ _ (fun kk => by kernel_rfl) h
  · clear h
    rintro next_nx8 ⟨v6, v7⟩ r h
    try dsimp only at h
    have hd_i5 : (decide (((Int.toNat a_0) : Int) < a_0)) = false := decide_eq_false (by omega)
    conv => lhs; whnf
    rw [hd_i5]
    conv => lhs; whnf
    obtain rfl := Option.some.inj h
    show _ = _
    kernel_rfl

noncomputable def p_spec_l09At (a_0 : Int) (a_1 : Int) (a_2 : Int) (a_3 : List Int) (a_4 : List Bool) : Option Int :=
  grd (a_3.length < 4611686018427387904) <|
  forK a_3 (fun (i6 : Nat) x8 (_ : Unit) (nx7 : Unit → Option _) =>
    if a_0 ≥ 0 then
      if x8 = a_0 then
        some (i6 : Int)
      else
        nx7 ()
    else
      nx7 ()) () (fun (_ : Unit) =>
    some (-1))

set_option maxHeartbeats 4000000 in
theorem L_spec_l09At (a_0 : Int) (a_1 : Int) (a_2 : Int) (a_3 : List Int) (a_4 : List Bool) {r : Int} (h : p_spec_l09At a_0 a_1 a_2 a_3 a_4 = some r) : callL E 136 [.bp 0 0, IN a_0] ([some (.box [IN a_1, IN a_2, .sl 1, .sl 2]), some (.arr 2 1 (a_3.map rI)), some (.arr 4 1 (a_4.map rB))] : Fo) = some (IN r, ([some (.box [IN a_1, IN a_2, .sl 1, .sl 2]), some (.arr 2 1 (a_3.map rI)), some (.arr 4 1 (a_4.map rB))] : Fo)) := by
  unfold p_spec_l09At at h
  refine callW (fu := Try.f136) rfl rfl rfl NN ?_
  intro lp cl hlp hcl
  conv => lhs; whnf
  obtain ⟨hl_i6, h⟩ := grd_inv h
  refine loop_for hlp (l := a_3) hl_i6 (fun (i6 : Nat) (_ : Unit) => ([.bp 0 0, IN a_0, .dead, .dead, .dead, IN (i6 : Int)] ++ List.replicate 23 .dead : List V)) (fun (i6 : Nat) (_ : Unit) => ([some (.box [IN a_1, IN a_2, .sl 1, .sl 2]), some (.arr 2 1 (a_3.map rI)), some (.arr 4 1 (a_4.map rB))] : Fo)) (fun (r : Int) => ((IN r : V), ([some (.box [IN a_1, IN a_2, .sl 1, .sl 2]), some (.arr 2 1 (a_3.map rI)), some (.arr 4 1 (a_4.map rB))] : Fo))) ?_ ?_ () _ (fun kk => by kernel_rfl) h
  · clear h
    rintro next_nx7 nx7 i6 hi_i6 hnx7 ⟨⟩ r h
    try dsimp only at h
    have hn_i6 : i6 < 4611686018427387904 := by omega
    have hx_x8 := get_map rI a_3 i6 hi_i6
    generalize a_3[i6] = x8 at h hx_x8
    have hd_i6 : (decide ((i6 : Int) < (a_3.length : Int))) = true := decide_eq_true (by omega)
    conv => lhs; whnf
    try rw [len_of (l := a_3) (r := rI)]
    rw [hd_i6]
    conv => lhs; whnf
    cases hb9 : (decide (a_0 ≥ 0))
    · replace h := ifF h (decF hb9)
      conv => lhs; whnf
      try (rw [hb9]; conv => lhs; whnf)
      try (rw [hb9]; conv => lhs; whnf)
      try (rw [hb9]; conv => lhs; whnf)
      try (rw [hb9]; conv => lhs; whnf)
      try (rw [hb9]; conv => lhs; whnf)
      try (rw [hb9]; conv => lhs; whnf)
      try (rw [hb9]; conv => lhs; whnf)
      try (rw [hb9]; conv => lhs; whnf)
      try (rw [hb9]; conv => lhs; whnf)
      rw [wrap_nat i6 (by have := hn_i6; omega)]
      exact hnx7 _ _ _ _ (fun kk => by kernel_rfl) h
    · replace h := ifT h (decT hb9)
      conv => lhs; whnf
      try (rw [hb9]; conv => lhs; whnf)
      try (rw [hb9]; conv => lhs; whnf)
      try (rw [hb9]; conv => lhs; whnf)
      try (rw [hb9]; conv => lhs; whnf)
      try (rw [hb9]; conv => lhs; whnf)
      try (rw [decide_eq_true hq_x8]; conv => lhs; whnf)
      rw [hx_x8]
      conv => lhs; whnf
      try (rw [hb9]; conv => lhs; whnf)
      rw [hx_x8]
      conv => lhs; whnf
      try (rw [hb9]; conv => lhs; whnf)
      try (rw [hb9]; conv => lhs; whnf)
      try (rw [hb9]; conv => lhs; whnf)
      cases hb10 : (x8 == a_0)
      · replace h := ifF h (beqF hb10)
        conv => lhs; whnf
        rw [wrap_nat i6 (by have := hn_i6; omega)]
        exact hnx7 _ _ _ _ (fun kk => by kernel_rfl) h
      · replace h := ifT h (beqT hb10)
        conv => lhs; whnf
        obtain rfl := Option.some.inj h
        show _ = _
        kernel_rfl
  · clear h
    rintro next_nx7 ⟨⟩ r h
    try dsimp only at h
    have hd_i6 : (decide ((a_3.length : Int) < (a_3.length : Int))) = false := decide_eq_false (by omega)
    conv => lhs; whnf
    try rw [len_of (l := a_3) (r := rI)]
    rw [hd_i6]
    conv => lhs; whnf
    obtain rfl := Option.some.inj h
    show _ = _
    kernel_rfl

noncomputable def p_spec_l09Draw (a_0 : Sl00Src) : Option (Int × Int × Sl00Src × (List Int) × (List Bool)) :=
  callK (p_spec_l00Src_pick 12 a_0) fun y1 =>
  callK (p_spec_l00Src_pick 4 y1.2) fun y2 =>
  callK (p_spec_l00Src_pick 2 y2.2) fun y3 =>
  callK (p_spec_l09New (IntKind.i64.wrap (1 + y1.1)) (IntKind.i64.wrap (2 + y2.1)) (IntKind.i64.wrap (4 * (IntKind.i64.wrap (1 + y3.1))))) fun y4 =>
  callK (p_spec_l00Src_pick 20 y3.2) fun y5 =>
  iterK (fun ((v6, v7, v8, v9) : (Int × Sl00Src × (List Int) × (List Bool))) (nx10 : (Int × Sl00Src × (List Int) × (List Bool)) → Option _) =>
    if v6 > 0 then
      callK (p_spec_l00Src_pick (IntKind.i64.wrap ((IntKind.i64.wrap (2 + y2.1)) * (IntKind.i64.wrap (4 * (IntKind.i64.wrap (1 + y3.1)))))) v7) fun y12 =>
      callK (p_spec_l00Src_pick (v8.length : Int) y12.2) fun y13 =>
      callK (p_spec_l09At y12.1 (IntKind.i64.wrap (2 + y2.1)) (IntKind.i64.wrap (4 * (IntKind.i64.wrap (1 + y3.1)))) v8 v9) fun y14 =>
      if y14 < 0 then
        getK v8 y13.1 fun x16 =>
        callK (p_spec_l00Src_one 5 y13.2) fun y17 =>
        getK v9 y13.1 fun x18 =>
        nx10 ((IntKind.i64.wrap (v6 - 1)), y17.2, (v8.set (Int.toNat y13.1) y12.1), (v9.set (Int.toNat y13.1) y17.1))
      else
        nx10 ((IntKind.i64.wrap (v6 - 1)), y13.2, v8, v9)
    else
      some ((IntKind.i64.wrap (2 + y2.1)), (IntKind.i64.wrap (4 * (IntKind.i64.wrap (1 + y3.1)))), v7, v8, v9)) NN (y5.1, y5.2, y4.1, y4.2)

set_option maxHeartbeats 4000000 in
theorem L_spec_l09Draw (a_0 : Sl00Src) {r : (Int × Int × Sl00Src × (List Int) × (List Bool))} (h : p_spec_l09Draw a_0 = some r) : callL E 222 [.bp 0 0] ([some (.box [.d (.arr (a_0.Code.map rU)), IN a_0.At, .d (.lit (.int .u64 a_0.Seed))])] : Fo) = some (.agg [IN r.1, IN r.2.1, .sl 1, .sl 2], ([some (.box [.d (.arr (r.2.2.1.Code.map rU)), IN r.2.2.1.At, .d (.lit (.int .u64 r.2.2.1.Seed))]), some (.arr 2 1 (r.2.2.2.1.map rI)), some (.arr 4 1 (r.2.2.2.2.map rB))] : Fo)) := by
  unfold p_spec_l09Draw at h
  refine callW (fu := Try.f222) rfl rfl rfl NN ?_
  intro lp cl hlp hcl
  conv => lhs; whnf
  obtain ⟨y1, h_y1, h⟩ := callK_inv h
  rw [cl_eq hcl (L_spec_l00Src_pick 12 a_0 h_y1)]
  rotate_left
  · show _ = _
    kernel_rfl
  · show _ = _
    kernel_rfl
  conv => lhs; whnf
  obtain ⟨y2, h_y2, h⟩ := callK_inv h
  rw [cl_eq hcl (L_spec_l00Src_pick 4 y1.2 h_y2)]
  rotate_left
  · show _ = _
    kernel_rfl
  · show _ = _
    kernel_rfl
  conv => lhs; whnf
  obtain ⟨y3, h_y3, h⟩ := callK_inv h
  rw [cl_eq hcl (L_spec_l00Src_pick 2 y2.2 h_y3)]
  rotate_left
  · show _ = _
    kernel_rfl
  · show _ = _
    kernel_rfl
  conv => lhs; whnf
  obtain ⟨y4, h_y4, h⟩ := callK_inv h
  rw [cl_eq hcl (L_spec_l09New (IntKind.i64.wrap (1 + y1.1)) (IntKind.i64.wrap (2 + y2.1)) (IntKind.i64.wrap (4 * (IntKind.i64.wrap (1 + y3.1)))) h_y4)]
  rotate_left
  · show _ = _
    kernel_rfl
  · show _ = _
    kernel_rfl
  conv => lhs; whnf
  obtain ⟨y5, h_y5, h⟩ := callK_inv h
  rw [cl_eq hcl (L_spec_l00Src_pick 20 y3.2 h_y5)]
  rotate_left
  · show _ = _
    kernel_rfl
  · show _ = _
    kernel_rfl
  conv => lhs; whnf
  refine loop_iter hlp (fun ((v6, v7, v8, v9) : (Int × Sl00Src × (List Int) × (List Bool))) => ([.bp 0 0, .dead, .bp 1 0, .dead, .dead, .bp 2 0, IN v6] ++ List.replicate 48 .dead : List V)) (fun ((v6, v7, v8, v9) : (Int × Sl00Src × (List Int) × (List Bool))) => ([some (.box [.d (.arr (v7.Code.map rU)), IN v7.At, .d (.lit (.int .u64 v7.Seed))]), some (.box [IN 0, IN 0, .d (.arr (([] : List Int).map rI)), .d (.arr (([] : List Bool).map rB))]), some (.box [IN (IntKind.i64.wrap (2 + y2.1)), IN (IntKind.i64.wrap (4 * (IntKind.i64.wrap (1 + y3.1)))), .sl 3, .sl 4]), some (.arr 2 1 (v8.map rI)), some (.arr 4 1 (v9.map rB))] : Fo)) (fun (r : (Int × Int × Sl00Src × (List Int) × (List Bool))) => ((.agg [IN r.1, IN r.2.1, .sl 1, .sl 2] : V), ([some (.box [.d (.arr (r.2.2.1.Code.map rU)), IN r.2.2.1.At, .d (.lit (.int .u64 r.2.2.1.Seed))]), some (.arr 2 1 (r.2.2.2.1.map rI)), some (.arr 4 1 (r.2.2.2.2.map rB))] : Fo))) ?_ (y5.1, y5.2, y4.1, y4.2) _ (fun kk => by kernel_rfl) h
  clear h
  rintro next_nx10 nx10 hnx10 ⟨v6, v7, v8, v9⟩ r h
  try dsimp only at h
  conv => lhs; whnf
  cases hb11 : (decide (v6 > 0))
  · replace h := ifF h (decF hb11)
    conv => lhs; whnf
    obtain rfl := Option.some.inj h
    show _ = _
    kernel_rfl
  · replace h := ifT h (decT hb11)
    conv => lhs; whnf
    obtain ⟨y12, h_y12, h⟩ := callK_inv h
    rw [cl_eq hcl (L_spec_l00Src_pick (IntKind.i64.wrap ((IntKind.i64.wrap (2 + y2.1)) * (IntKind.i64.wrap (4 * (IntKind.i64.wrap (1 + y3.1)))))) v7 h_y12)]
    rotate_left
    · show _ = _
      kernel_rfl
    · show _ = _
      kernel_rfl
    conv => lhs; whnf
    try rw [len_of (l := v8) (r := rI)]
    obtain ⟨y13, h_y13, h⟩ := callK_inv h
    rw [cl_eq hcl (L_spec_l00Src_pick (v8.length : Int) y12.2 h_y13)]
    rotate_left
    · show _ = _
      kernel_rfl
    · show _ = _
      kernel_rfl
    conv => lhs; whnf
    obtain ⟨y14, h_y14, h⟩ := callK_inv h
    rw [cl_eq hcl (L_spec_l09At y12.1 (IntKind.i64.wrap (2 + y2.1)) (IntKind.i64.wrap (4 * (IntKind.i64.wrap (1 + y3.1)))) v8 v9 h_y14)]
    rotate_left
    · show _ = _
      kernel_rfl
    · show _ = _
      kernel_rfl
    conv => lhs; whnf
    cases hb15 : (decide (y14 < 0))
    · replace h := ifF h (decF hb15)
      conv => lhs; whnf
      exact hnx10 _ _ _ _ (fun kk => by kernel_rfl) h
    · replace h := ifT h (decT hb15)
      conv => lhs; whnf
      obtain ⟨x16, hq_x16, hx_x16', h⟩ := getK_inv h
      have hx_x16 := get_of (r := rI) hx_x16'
      try (rw [decide_eq_true hq_x16]; conv => lhs; whnf)
      rw [hx_x16]
      conv => lhs; whnf
      rw [hx_x16]
      conv => lhs; whnf
      first | (rw [map_set_of (r := rI) (l := v8) (x := y12.1) ?hh]; case hh => exact rfl) | skip
      obtain ⟨y17, h_y17, h⟩ := callK_inv h
      rw [cl_eq hcl (L_spec_l00Src_one 5 y13.2 h_y17)]
      rotate_left
      · show _ = _
        kernel_rfl
      · show _ = _
        kernel_rfl
      conv => lhs; whnf
      obtain ⟨x18, hq_x18, hx_x18', h⟩ := getK_inv h
      have hx_x18 := get_of (r := rB) hx_x18'
      try (rw [decide_eq_true hq_x18]; conv => lhs; whnf)
      rw [hx_x18]
      conv => lhs; whnf
      rw [hx_x18]
      conv => lhs; whnf
      first | (rw [map_set_of (r := rB) (l := v9) (x := y17.1) ?hh]; case hh => exact rfl) | skip
      exact hnx10 _ _ _ _ (fun kk => by kernel_rfl) h

noncomputable def p_spec_l00Src_among' (a_0 : Sl00Src) (a_1 : List Int) : Option (Int × Sl00Src) :=
  callK (p_spec_l00Src_pick (a_1.length : Int) a_0) fun y1 =>
  getK a_1 y1.1 fun x2 =>
  some (x2, y1.2)

set_option maxHeartbeats 4000000 in
theorem L_spec_l00Src_among' (a_0 : Sl00Src) (a_1 : List Int) {r : (Int × Sl00Src)} (h : p_spec_l00Src_among' a_0 a_1 = some r) : callL E 105 [.bp 0 0, .sl 1] ([some (.box [.d (.arr (a_0.Code.map rU)), IN a_0.At, .d (.lit (.int .u64 a_0.Seed))]), some (.arr 2 1 (a_1.map rI))] : Fo) = some (IN r.1, ([some (.box [.d (.arr (r.2.Code.map rU)), IN r.2.At, .d (.lit (.int .u64 r.2.Seed))]), some (.arr 2 1 (a_1.map rI))] : Fo)) := by
  unfold p_spec_l00Src_among' at h
  refine callW (fu := Try.f105) rfl rfl rfl NN ?_
  intro lp cl hlp hcl
  conv => lhs; whnf
  try rw [len_of (l := a_1) (r := rI)]
  obtain ⟨y1, h_y1, h⟩ := callK_inv h
  rw [cl_eq hcl (L_spec_l00Src_pick (a_1.length : Int) a_0 h_y1)]
  rotate_left
  · show _ = _
    kernel_rfl
  · show _ = _
    kernel_rfl
  conv => lhs; whnf
  obtain ⟨x2, hq_x2, hx_x2', h⟩ := getK_inv h
  have hx_x2 := get_of (r := rI) hx_x2'
  try (rw [decide_eq_true hq_x2]; conv => lhs; whnf)
  rw [hx_x2]
  conv => lhs; whnf
  rw [hx_x2]
  conv => lhs; whnf
  obtain rfl := Option.some.inj h
  show _ = _
  kernel_rfl

noncomputable def p_spec_l09Bent (a_0 : Sl00Src) : Option (PageMap × Sl00Src) :=
  callK (p_spec_l09Draw a_0) fun y1 =>
  callK (p_spec_l00Src_pick (y1.2.2.2.1.length : Int) y1.2.2.1) fun y2 =>
  callK (p_spec_l00Src_pick 14 y2.2) fun y3 =>
  if y3.1 = 0 then
    callK (p_spec_l00Src_among' y3.2 ([(-2), (-1), (IntKind.i64.wrap (y1.1 * y1.2.1)), 0] : List Int)) fun y5 =>
    getK y1.2.2.2.1 y2.1 fun x6 =>
    some ((⟨y1.1, y1.2.1, (y1.2.2.2.1.set (Int.toNat y2.1) y5.1), y1.2.2.2.2⟩ : PageMap), y5.2)
  else
    if y3.1 = 1 then
      grd (appOk (y1.2.2.2.2.length + 1) 1 = true) <|
      some ((⟨y1.1, y1.2.1, y1.2.2.2.1, (y1.2.2.2.2 ++ ([false] : List Bool))⟩ : PageMap), y3.2)
    else
      if y3.1 = 2 then
        getK y1.2.2.2.2 y2.1 fun x9 =>
        some ((⟨y1.1, y1.2.1, y1.2.2.2.1, (y1.2.2.2.2.set (Int.toNat y2.1) (!x9))⟩ : PageMap), y3.2)
      else
        if y3.1 = 3 then
          callK (p_spec_l00Src_among' y3.2 ([0, 160, 161, (-1)] : List Int)) fun y11 =>
          some ((⟨y11.1, y1.2.1, y1.2.2.2.1, y1.2.2.2.2⟩ : PageMap), y11.2)
        else
          if y3.1 = 4 then
            grd (0 ≤ 0 ∧ 0 ≤ (y1.2.2.2.1.length : Int)) <|
            grd (0 ≤ 0 ∧ 0 ≤ (y1.2.2.2.2.length : Int)) <|
            some ((⟨y1.1, y1.2.1, (y1.2.2.2.1.take (Int.toNat 0)), (y1.2.2.2.2.take (Int.toNat 0))⟩ : PageMap), y3.2)
          else
            some ((⟨y1.1, y1.2.1, y1.2.2.2.1, y1.2.2.2.2⟩ : PageMap), y3.2)

set_option maxHeartbeats 4000000 in
theorem L_spec_l09Bent (a_0 : Sl00Src) {r : (PageMap × Sl00Src)} (h : p_spec_l09Bent a_0 = some r) : callL E 129 [.bp 0 0] ([some (.box [.d (.arr (a_0.Code.map rU)), IN a_0.At, .d (.lit (.int .u64 a_0.Seed))])] : Fo) = some (.agg [IN r.1.Blocks, IN r.1.Pages, .d (.arr (r.1.Map.map rI)), .d (.arr (r.1.Trimmed.map rB))], ([some (.box [.d (.arr (r.2.Code.map rU)), IN r.2.At, .d (.lit (.int .u64 r.2.Seed))])] : Fo)) := by
  unfold p_spec_l09Bent at h
  refine callW (fu := Try.f129) rfl rfl rfl NN ?_
  intro lp cl hlp hcl
  conv => lhs; whnf
  obtain ⟨y1, h_y1, h⟩ := callK_inv h
  rw [cl_eq hcl (L_spec_l09Draw a_0 h_y1)]
  rotate_left
  · show _ = _
    kernel_rfl
  · show _ = _
    kernel_rfl
  conv => lhs; whnf
  try rw [len_of (l := y1.2.2.2.1) (r := rI)]
  obtain ⟨y2, h_y2, h⟩ := callK_inv h
  rw [cl_eq hcl (L_spec_l00Src_pick (y1.2.2.2.1.length : Int) y1.2.2.1 h_y2)]
  rotate_left
  · show _ = _
    kernel_rfl
  · show _ = _
    kernel_rfl
  conv => lhs; whnf
  obtain ⟨y3, h_y3, h⟩ := callK_inv h
  rw [cl_eq hcl (L_spec_l00Src_pick 14 y2.2 h_y3)]
  rotate_left
  · show _ = _
    kernel_rfl
  · show _ = _
    kernel_rfl
  conv => lhs; whnf
  cases hb4 : (y3.1 == 0)
  · replace h := ifF h (beqF hb4)
    conv => lhs; whnf
    cases hb7 : (y3.1 == 1)
    · replace h := ifF h (beqF hb7)
      conv => lhs; whnf
      cases hb8 : (y3.1 == 2)
      · replace h := ifF h (beqF hb8)
        conv => lhs; whnf
        cases hb10 : (y3.1 == 3)
        · replace h := ifF h (beqF hb10)
          conv => lhs; whnf
          cases hb12 : (y3.1 == 4)
          · replace h := ifF h (beqF hb12)
            conv => lhs; whnf
            obtain rfl := Option.some.inj h
            show _ = _
            kernel_rfl
          · replace h := ifT h (beqT hb12)
            conv => lhs; whnf
            obtain ⟨hg13, h⟩ := grd_inv h
            try rw [List.length_map]
            try (rw [decide_eq_true hg13.1]; conv => lhs; whnf)
            try (rw [decide_eq_true hg13.2])
            conv => lhs; whnf
            try rw [take_of (r := rI) (l := y1.2.2.2.1)]
            obtain ⟨hg14, h⟩ := grd_inv h
            try rw [List.length_map]
            try (rw [decide_eq_true hg14.1]; conv => lhs; whnf)
            try (rw [decide_eq_true hg14.2])
            conv => lhs; whnf
            try rw [take_of (r := rB) (l := y1.2.2.2.2)]
            obtain rfl := Option.some.inj h
            show _ = _
            kernel_rfl
        · replace h := ifT h (beqT hb10)
          conv => lhs; whnf
          obtain ⟨y11, h_y11, h⟩ := callK_inv h
          rw [cl_eq hcl (L_spec_l00Src_among' y3.2 ([0, 160, 161, (-1)] : List Int) h_y11)]
          rotate_left
          · show _ = _
            kernel_rfl
          · show _ = _
            kernel_rfl
          conv => lhs; whnf
          obtain rfl := Option.some.inj h
          show _ = _
          kernel_rfl
      · replace h := ifT h (beqT hb8)
        conv => lhs; whnf
        obtain ⟨x9, hq_x9, hx_x9', h⟩ := getK_inv h
        have hx_x9 := get_of (r := rB) hx_x9'
        try (rw [decide_eq_true hq_x9]; conv => lhs; whnf)
        rw [hx_x9]
        conv => lhs; whnf
        rw [hx_x9]
        conv => lhs; whnf
        try (rw [decide_eq_true hq_x9]; conv => lhs; whnf)
        rw [hx_x9]
        conv => lhs; whnf
        rw [hx_x9]
        conv => lhs; whnf
        first | (rw [map_set_of (r := rB) (l := y1.2.2.2.2) (x := (!x9)) ?hh]; case hh => exact rfl) | skip
        obtain rfl := Option.some.inj h
        show _ = _
        kernel_rfl
    · replace h := ifT h (beqT hb7)
      conv => lhs; whnf
      obtain ⟨hg15, h⟩ := grd_inv h
      rw [app_eq hg15 ?h1 ?h2]
      case h1 => first | exact rfl | (simp only [List.length_map, List.length_cons, List.length_nil]; done) | (rw [List.length_map]; rfl)
      case h2 => exact rfl
      conv => lhs; whnf
      first | (rw [map_app_of (r := rB) (l := y1.2.2.2.2) (m := ([false] : List Bool)) ?hh]; case hh => exact rfl) | skip
      obtain rfl := Option.some.inj h
      show _ = _
      kernel_rfl
  · replace h := ifT h (beqT hb4)
    conv => lhs; whnf
    obtain ⟨y5, h_y5, h⟩ := callK_inv h
    rw [cl_eq hcl (L_spec_l00Src_among' y3.2 ([(-2), (-1), (IntKind.i64.wrap (y1.1 * y1.2.1)), 0] : List Int) h_y5)]
    rotate_left
    · show _ = _
      kernel_rfl
    · show _ = _
      kernel_rfl
    conv => lhs; whnf
    obtain ⟨x6, hq_x6, hx_x6', h⟩ := getK_inv h
    have hx_x6 := get_of (r := rI) hx_x6'
    try (rw [decide_eq_true hq_x6]; conv => lhs; whnf)
    rw [hx_x6]
    conv => lhs; whnf
    rw [hx_x6]
    conv => lhs; whnf
    first | (rw [map_set_of (r := rI) (l := y1.2.2.2.1) (x := y5.1) ?hh]; case hh => exact rfl) | skip
    obtain rfl := Option.some.inj h
    show _ = _
    kernel_rfl

noncomputable def p_spec_DrawSetPage (a_0 : List Int) : Option (PageMap × Int × Int × Bool) :=
  callK (p_spec_l00From a_0) fun y1 =>
  callK (p_spec_l09Bent y1) fun y2 =>
  callK (p_spec_l00Src_pick 50 y2.2) fun y3 =>
  if (y2.1.Map.length : Int) > 0 then
    callK (p_spec_l00Src_one 4 y3.2) fun y5 =>
    if y5.1 = true then
      callK (p_spec_l00Src_pick (y2.1.Map.length : Int) y5.2) fun y7 =>
      getK y2.1.Map y7.1 fun x8 =>
      callK (p_spec_l00Src_pick 14 y7.2) fun y9 =>
      callK (p_spec_l00Src_one 3 y9.2) fun y10 =>
      some (y2.1, (IntKind.i64.wrap (y9.1 - 1)), x8, y10.1)
    else
      callK (p_spec_l00Src_pick 14 y5.2) fun y11 =>
      callK (p_spec_l00Src_one 3 y11.2) fun y12 =>
      some (y2.1, (IntKind.i64.wrap (y11.1 - 1)), (IntKind.i64.wrap (y3.1 - 1)), y12.1)
  else
    callK (p_spec_l00Src_pick 14 y3.2) fun y13 =>
    callK (p_spec_l00Src_one 3 y13.2) fun y14 =>
    some (y2.1, (IntKind.i64.wrap (y13.1 - 1)), (IntKind.i64.wrap (y3.1 - 1)), y14.1)

set_option maxHeartbeats 4000000 in
theorem L_spec_DrawSetPage (a_0 : List Int) {r : (PageMap × Int × Int × Bool)} (h : p_spec_DrawSetPage a_0 = some r) : callL E 36 [.d (.arr (a_0.map rU))] ([] : Fo) = some (.tup [.agg [IN r.1.Blocks, IN r.1.Pages, .d (.arr (r.1.Map.map rI)), .d (.arr (r.1.Trimmed.map rB))], IN r.2.1, IN r.2.2.1, BO r.2.2.2], ([] : Fo)) := by
  unfold p_spec_DrawSetPage at h
  refine callW (fu := Try.f36) rfl rfl rfl NN ?_
  intro lp cl hlp hcl
  conv => lhs; whnf
  obtain ⟨y1, h_y1, h⟩ := callK_inv h
  rw [cl_eq hcl (L_spec_l00From a_0 h_y1)]
  rotate_left
  · show _ = _
    kernel_rfl
  · show _ = _
    kernel_rfl
  conv => lhs; whnf
  obtain ⟨y2, h_y2, h⟩ := callK_inv h
  rw [cl_eq hcl (L_spec_l09Bent y1 h_y2)]
  rotate_left
  · show _ = _
    kernel_rfl
  · show _ = _
    kernel_rfl
  conv => lhs; whnf
  obtain ⟨y3, h_y3, h⟩ := callK_inv h
  rw [cl_eq hcl (L_spec_l00Src_pick 50 y2.2 h_y3)]
  rotate_left
  · show _ = _
    kernel_rfl
  · show _ = _
    kernel_rfl
  conv => lhs; whnf
  try rw [len_of (l := y2.1.Map) (r := rI)]
  cases hb4 : (decide ((y2.1.Map.length : Int) > 0))
  · replace h := ifF h (decF hb4)
    conv => lhs; whnf
    try (rw [hb4]; conv => lhs; whnf)
    try (rw [hb4]; conv => lhs; whnf)
    obtain ⟨y13, h_y13, h⟩ := callK_inv h
    rw [cl_eq hcl (L_spec_l00Src_pick 14 y3.2 h_y13)]
    rotate_left
    · show _ = _
      kernel_rfl
    · show _ = _
      kernel_rfl
    conv => lhs; whnf
    obtain ⟨y14, h_y14, h⟩ := callK_inv h
    rw [cl_eq hcl (L_spec_l00Src_one 3 y13.2 h_y14)]
    rotate_left
    · show _ = _
      kernel_rfl
    · show _ = _
      kernel_rfl
    conv => lhs; whnf
    obtain rfl := Option.some.inj h
    show _ = _
    kernel_rfl
  · replace h := ifT h (decT hb4)
    conv => lhs; whnf
    try (rw [hb4]; conv => lhs; whnf)
    obtain ⟨y5, h_y5, h⟩ := callK_inv h
    rw [cl_eq hcl (L_spec_l00Src_one 4 y3.2 h_y5)]
    rotate_left
    · show _ = _
      kernel_rfl
    · show _ = _
      kernel_rfl
    conv => lhs; whnf
    try (rw [hb4]; conv => lhs; whnf)
    cases hb6 : y5.1
    · replace h := ifF h (booF hb6)
      conv => lhs; whnf
      obtain ⟨y11, h_y11, h⟩ := callK_inv h
      rw [cl_eq hcl (L_spec_l00Src_pick 14 y5.2 h_y11)]
      rotate_left
      · show _ = _
        kernel_rfl
      · show _ = _
        kernel_rfl
      conv => lhs; whnf
      obtain ⟨y12, h_y12, h⟩ := callK_inv h
      rw [cl_eq hcl (L_spec_l00Src_one 3 y11.2 h_y12)]
      rotate_left
      · show _ = _
        kernel_rfl
      · show _ = _
        kernel_rfl
      conv => lhs; whnf
      obtain rfl := Option.some.inj h
      show _ = _
      kernel_rfl
    · replace h := ifT h hb6
      conv => lhs; whnf
      try rw [len_of (l := y2.1.Map) (r := rI)]
      obtain ⟨y7, h_y7, h⟩ := callK_inv h
      rw [cl_eq hcl (L_spec_l00Src_pick (y2.1.Map.length : Int) y5.2 h_y7)]
      rotate_left
      · show _ = _
        kernel_rfl
      · show _ = _
        kernel_rfl
      conv => lhs; whnf
      obtain ⟨x8, hq_x8, hx_x8', h⟩ := getK_inv h
      have hx_x8 := get_of (r := rI) hx_x8'
      try (rw [decide_eq_true hq_x8]; conv => lhs; whnf)
      rw [hx_x8]
      conv => lhs; whnf
      rw [hx_x8]
      conv => lhs; whnf
      obtain ⟨y9, h_y9, h⟩ := callK_inv h
      rw [cl_eq hcl (L_spec_l00Src_pick 14 y7.2 h_y9)]
      rotate_left
      · show _ = _
        kernel_rfl
      · show _ = _
        kernel_rfl
      conv => lhs; whnf
      obtain ⟨y10, h_y10, h⟩ := callK_inv h
      rw [cl_eq hcl (L_spec_l00Src_one 3 y9.2 h_y10)]
      rotate_left
      · show _ = _
        kernel_rfl
      · show _ = _
        kernel_rfl
      conv => lhs; whnf
      obtain rfl := Option.some.inj h
      show _ = _
      kernel_rfl

noncomputable def p_impl_sizeOk (a_0 : Int) (a_1 : Int) : Option Bool :=
  if (inR a_0 1 640) = true then
    grd (a_0 ≠ 0) <|
    some (inR a_1 1 (IntKind.i64.wrap (Int.tdiv 640 a_0)))
  else
    some false

set_option maxHeartbeats 4000000 in
theorem L_impl_sizeOk (a_0 : Int) (a_1 : Int) {r : Bool} (h : p_impl_sizeOk a_0 a_1 = some r) : callL E 223 [IN a_0, IN a_1] ([] : Fo) = some (BO r, ([] : Fo)) := by
  unfold p_impl_sizeOk at h
  refine callW (fu := Try.f223) rfl rfl rfl NN ?_
  intro lp cl hlp hcl
  conv => lhs; whnf
  rw [cl_eq hcl (L_impl_within a_0 1 640 (pl_within a_0 1 640))]
  rotate_left
  · show _ = _
    kernel_rfl
  · show _ = _
    kernel_rfl
  conv => lhs; whnf
  cases hb1 : (inR a_0 1 640)
  · replace h := ifF h (booF hb1)
    conv => lhs; whnf
    try (rw [hb1]; conv => lhs; whnf)
    try (rw [hb1]; conv => lhs; whnf)
    try (rw [hb1]; conv => lhs; whnf)
    try (rw [hb1]; conv => lhs; whnf)
    obtain rfl := Option.some.inj h
    show _ = _
    kernel_rfl
  · replace h := ifT h hb1
    conv => lhs; whnf
    try (rw [hb1]; conv => lhs; whnf)
    try (rw [hb1]; conv => lhs; whnf)
    obtain ⟨hg2, h⟩ := grd_inv h
    rw [quo_run _ _ _ _ hg2]
    conv => lhs; whnf
    try (rw [hb1]; conv => lhs; whnf)
    rw [cl_eq hcl (L_impl_within a_1 1 (IntKind.i64.wrap (Int.tdiv 640 a_0)) (pl_within a_1 1 (IntKind.i64.wrap (Int.tdiv 640 a_0))))]
    rotate_left
    · show _ = _
      kernel_rfl
    · show _ = _
      kernel_rfl
    conv => lhs; whnf
    try (rw [hb1]; conv => lhs; whnf)
    obtain rfl := Option.some.inj h
    show _ = _
    kernel_rfl

noncomputable def p_impl_PageMap_physical (a_0 : PageMap) : Option Int :=
  some (IntKind.i64.wrap (a_0.Blocks * a_0.Pages))

set_option maxHeartbeats 4000000 in
theorem L_impl_PageMap_physical (a_0 : PageMap) {r : Int} (h : p_impl_PageMap_physical a_0 = some r) : callL E 132 [.agg [IN a_0.Blocks, IN a_0.Pages, .d (.arr (a_0.Map.map rI)), .d (.arr (a_0.Trimmed.map rB))]] ([] : Fo) = some (IN r, ([] : Fo)) := by
  unfold p_impl_PageMap_physical at h
  refine callW (fu := Try.f132) rfl rfl rfl NN ?_
  intro lp cl hlp hcl
  conv => lhs; whnf
  obtain rfl := Option.some.inj h
  show _ = _
  kernel_rfl

noncomputable def p_slices_Index (a_0 : List Int) (a_1 : Int) : Option Int :=
  grd (a_0.length < 4611686018427387904) <|
  forK a_0 (fun (i5 : Nat) x7 (_ : Unit) (nx6 : Unit → Option _) =>
    if a_1 = x7 then
      some (i5 : Int)
    else
      nx6 ()) () (fun (_ : Unit) =>
    some (-1))

set_option maxHeartbeats 4000000 in
theorem L_slices_Index (a_0 : List Int) (a_1 : Int) {r : Int} (h : p_slices_Index a_0 a_1 = some r) : callL E 133 [.d (.arr (a_0.map rI)), IN a_1] ([] : Fo) = some (IN r, ([] : Fo)) := by
  unfold p_slices_Index at h
  refine callW (fu := Try.f133) rfl rfl rfl NN ?_
  intro lp cl hlp hcl
  conv => lhs; whnf
  try rw [len_of (l := a_0) (r := rI)]
  obtain ⟨hl_i5, h⟩ := grd_inv h
  refine loop_for hlp (l := a_0) hl_i5 (fun (i5 : Nat) (_ : Unit) => ([.d (.arr (a_0.map rI)), IN a_1, .dead, .dead, .dead, .dead, .dead, IN (a_0.length : Int), IN (i5 : Int)] ++ List.replicate 10 .dead : List V)) (fun (i5 : Nat) (_ : Unit) => ([] : Fo)) (fun (r : Int) => ((IN r : V), ([] : Fo))) ?_ ?_ () _ (fun kk => by kernel_rfl) h
  · clear h
    rintro next_nx6 nx6 i5 hi_i5 hnx6 ⟨⟩ r h
    try dsimp only at h
    have hn_i5 : i5 < 4611686018427387904 := by omega
    have hx_x7 := get_map rI a_0 i5 hi_i5
    generalize a_0[i5] = x7 at h hx_x7
    have hd_i5 : (decide ((i5 : Int) < (a_0.length : Int))) = true := decide_eq_true (by omega)
    conv => lhs; whnf
    rw [hd_i5]
    conv => lhs; whnf
    try (rw [decide_eq_true hq_x7]; conv => lhs; whnf)
    rw [hx_x7]
    conv => lhs; whnf
    rw [hx_x7]
    conv => lhs; whnf
    cases hb8 : (a_1 == x7)
    · replace h := ifF h (beqF hb8)
      conv => lhs; whnf
      rw [wrap_nat i5 (by have := hn_i5; omega)]
      exact hnx6 _ _ _ _ (fun kk => by kernel_rfl) h
    · replace h := ifT h (beqT hb8)
      conv => lhs; whnf
      obtain rfl := Option.some.inj h
      show _ = _
      kernel_rfl
  · clear h
    rintro next_nx6 ⟨⟩ r h
    try dsimp only at h
    have hd_i5 : (decide ((a_0.length : Int) < (a_0.length : Int))) = false := decide_eq_false (by omega)
    conv => lhs; whnf
    rw [hd_i5]
    conv => lhs; whnf
    obtain rfl := Option.some.inj h
    show _ = _
    kernel_rfl

noncomputable def p_slices_Contains (a_0 : List Int) (a_1 : Int) : Option Bool :=
  callK (p_slices_Index a_0 a_1) fun y1 =>
  some (decide (y1 ≥ 0))

set_option maxHeartbeats 4000000 in
theorem L_slices_Contains (a_0 : List Int) (a_1 : Int) {r : Bool} (h : p_slices_Contains a_0 a_1 = some r) : callL E 156 [.d (.arr (a_0.map rI)), IN a_1] ([] : Fo) = some (BO r, ([] : Fo)) := by
  unfold p_slices_Contains at h
  refine callW (fu := Try.f156) rfl rfl rfl NN ?_
  intro lp cl hlp hcl
  conv => lhs; whnf
  obtain ⟨y1, h_y1, h⟩ := callK_inv h
  rw [cl_eq hcl (L_slices_Index a_0 a_1 h_y1)]
  rotate_left
  · show _ = _
    kernel_rfl
  · show _ = _
    kernel_rfl
  conv => lhs; whnf
  obtain rfl := Option.some.inj h
  show _ = _
  kernel_rfl

noncomputable def p_impl_ValidMap (a_0 : PageMap) : Option Bool :=
  callK (p_impl_sizeOk a_0.Blocks a_0.Pages) fun y1 =>
  if y1 = true then
    if (inR (a_0.Map.length : Int) 1 48) = true then
      if ¬ (a_0.Trimmed.length : Int) = (a_0.Map.length : Int) then
        some false
      else
        grd (a_0.Map.length < 4611686018427387904) <|
        forK a_0.Map (fun (i19 : Nat) x21 (_ : Unit) (nx20 : Unit → Option _) =>
          callK (p_impl_PageMap_physical a_0) fun y22 =>
          if (inR x21 (-1) (IntKind.i64.wrap (y22 - 1))) = true then
            if x21 < 0 then
              getK a_0.Trimmed (i19 : Int) fun x25 =>
              if x25 = true then
                some false
              else
                if x21 ≥ 0 then
                  grd (0 ≤ 0 ∧ 0 ≤ (i19 : Int) ∧ (i19 : Int) ≤ (a_0.Map.length : Int)) <|
                  callK (p_slices_Contains ((a_0.Map.drop (Int.toNat 0)).take (Int.toNat (i19 : Int) - Int.toNat 0)) x21) fun y28 =>
                  if y28 = true then
                    some false
                  else
                    nx20 ()
                else
                  nx20 ()
            else
              if x21 ≥ 0 then
                grd (0 ≤ 0 ∧ 0 ≤ (i19 : Int) ∧ (i19 : Int) ≤ (a_0.Map.length : Int)) <|
                callK (p_slices_Contains ((a_0.Map.drop (Int.toNat 0)).take (Int.toNat (i19 : Int) - Int.toNat 0)) x21) fun y31 =>
                if y31 = true then
                  some false
                else
                  nx20 ()
              else
                nx20 ()
          else
            some false) () (fun (_ : Unit) =>
          some true)
    else
      some false
  else
    some false

set_option maxHeartbeats 4000000 in
theorem L_impl_ValidMap (a_0 : PageMap) {r : Bool} (h : p_impl_ValidMap a_0 = some r) : callL E 131 [.agg [IN a_0.Blocks, IN a_0.Pages, .d (.arr (a_0.Map.map rI)), .d (.arr (a_0.Trimmed.map rB))]] ([] : Fo) = some (BO r, ([] : Fo)) := by
  unfold p_impl_ValidMap at h
  refine callW (fu := Try.f131) rfl rfl rfl NN ?_
  intro lp cl hlp hcl
  conv => lhs; whnf
  obtain ⟨y1, h_y1, h⟩ := callK_inv h
  rw [cl_eq hcl (L_impl_sizeOk a_0.Blocks a_0.Pages h_y1)]
  rotate_left
  · show _ = _
    kernel_rfl
  · show _ = _
    kernel_rfl
  conv => lhs; whnf
  cases hb2 : y1
  · replace h := ifF h (booF hb2)
    conv => lhs; whnf
    try (rw [hb2]; conv => lhs; whnf)
    try (rw [hb2]; conv => lhs; whnf)
    try (rw [hb2]; conv => lhs; whnf)
    try (rw [hb2]; conv => lhs; whnf)
    try (rw [hb2]; conv => lhs; whnf)
    obtain rfl := Option.some.inj h
    show _ = _
    kernel_rfl
  · replace h := ifT h hb2
    conv => lhs; whnf
    try (rw [hb2]; conv => lhs; whnf)
    try (rw [hb2]; conv => lhs; whnf)
    try rw [len_of (l := a_0.Map) (r := rI)]
    try (rw [hb2]; conv => lhs; whnf)
    rw [cl_eq hcl (L_impl_within (a_0.Map.length : Int) 1 48 (pl_within (a_0.Map.length : Int) 1 48))]
    rotate_left
    · show _ = _
      kernel_rfl
    · show _ = _
      kernel_rfl
    conv => lhs; whnf
    try (rw [hb2]; conv => lhs; whnf)
    try (rw [hb2]; conv => lhs; whnf)
    cases hb3 : (inR (a_0.Map.length : Int) 1 48)
    · replace h := ifF h (booF hb3)
      conv => lhs; whnf
      try (rw [hb3]; conv => lhs; whnf)
      try (rw [hb3]; conv => lhs; whnf)
      try (rw [hb3]; conv => lhs; whnf)
      try (rw [hb3]; conv => lhs; whnf)
      try (rw [hb3]; conv => lhs; whnf)
      try (rw [hb3]; conv => lhs; whnf)
      try (rw [hb3]; conv => lhs; whnf)
      obtain rfl := Option.some.inj h
      show _ = _
      kernel_rfl
    · replace h := ifT h hb3
      conv => lhs; whnf
      try (rw [hb3]; conv => lhs; whnf)
      try (rw [hb3]; conv => lhs; whnf)
      try rw [len_of (l := a_0.Trimmed) (r := rB)]
      try (rw [hb3]; conv => lhs; whnf)
      try (rw [hb3]; conv => lhs; whnf)
      try (rw [hb3]; conv => lhs; whnf)
      try rw [len_of (l := a_0.Map) (r := rI)]
      try (rw [hb3]; conv => lhs; whnf)
      try (rw [hb3]; conv => lhs; whnf)
      cases hb4 : ((a_0.Trimmed.length : Int) != (a_0.Map.length : Int))
      · replace h := ifF h ((fun h => not_not_intro (bneF h)) hb4)
        conv => lhs; whnf
        try rw [len_of (l := a_0.Map) (r := rI)]
        obtain ⟨hl_i19, h⟩ := grd_inv h
        refine loop_for hlp (l := a_0.Map) hl_i19 (fun (i19 : Nat) (_ : Unit) => ([.dead, .bp 0 0, .dead, .dead, .dead, .dead, .dead, .dead, .dead, .dead, .dead, .dead, .dead, .dead, .dead, .dead, .dead, .dead, .dead, .dead, .dead, .dead, .dead, .dead, .dead, .dead, .dead, .dead, .d (.arr (a_0.Map.map rI)), IN (a_0.Map.length : Int), IN (i19 : Int)] ++ List.replicate 34 .dead : List V)) (fun (i19 : Nat) (_ : Unit) => ([some (.box [IN a_0.Blocks, IN a_0.Pages, .d (.arr (a_0.Map.map rI)), .d (.arr (a_0.Trimmed.map rB))])] : Fo)) (fun (r : Bool) => ((BO r : V), ([] : Fo))) ?_ ?_ () _ (fun kk => by kernel_rfl) h
        · clear h
          rintro next_nx20 nx20 i19 hi_i19 hnx20 ⟨⟩ r h
          try dsimp only at h
          have hn_i19 : i19 < 4611686018427387904 := by omega
          have hx_x21 := get_map rI a_0.Map i19 hi_i19
          generalize a_0.Map[i19] = x21 at h hx_x21
          have hd_i19 : (decide ((i19 : Int) < (a_0.Map.length : Int))) = true := decide_eq_true (by omega)
          conv => lhs; whnf
          rw [hd_i19]
          conv => lhs; whnf
          try (rw [decide_eq_true hq_x21]; conv => lhs; whnf)
          rw [hx_x21]
          conv => lhs; whnf
          rw [hx_x21]
          conv => lhs; whnf
          obtain ⟨y22, h_y22, h⟩ := callK_inv h
          rw [cl_eq hcl (L_impl_PageMap_physical a_0 h_y22)]
          rotate_left
          · show _ = _
            kernel_rfl
          · show _ = _
            kernel_rfl
          conv => lhs; whnf
          rw [cl_eq hcl (L_impl_within x21 (-1) (IntKind.i64.wrap (y22 - 1)) (pl_within x21 (-1) (IntKind.i64.wrap (y22 - 1))))]
          rotate_left
          · show _ = _
            kernel_rfl
          · show _ = _
            kernel_rfl
          conv => lhs; whnf
          cases hb23 : (inR x21 (-1) (IntKind.i64.wrap (y22 - 1)))
          · replace h := ifF h (booF hb23)
            conv => lhs; whnf
            try (rw [hb23]; conv => lhs; whnf)
            try (rw [hb23]; conv => lhs; whnf)
            try (rw [hb23]; conv => lhs; whnf)
            try (rw [hb23]; conv => lhs; whnf)
            obtain rfl := Option.some.inj h
            show _ = _
            kernel_rfl
          · replace h := ifT h hb23
            conv => lhs; whnf
            try (rw [hb23]; conv => lhs; whnf)
            try (rw [hb23]; conv => lhs; whnf)
            cases hb24 : (decide (x21 < 0))
            · replace h := ifF h (decF hb24)
              conv => lhs; whnf
              try (rw [hb24]; conv => lhs; whnf)
              try (rw [hb24]; conv => lhs; whnf)
              try (rw [hb24]; conv => lhs; whnf)
              try (rw [hb24]; conv => lhs; whnf)
              try (rw [hb23]; conv => lhs; whnf)
              try (rw [hb24]; conv => lhs; whnf)
              try (rw [hb23]; conv => lhs; whnf)
              cases hb30 : (decide (x21 ≥ 0))
              · replace h := ifF h (decF hb30)
                conv => lhs; whnf
                try (rw [hb30]; conv => lhs; whnf)
                try (rw [hb30]; conv => lhs; whnf)
                try (rw [hb30]; conv => lhs; whnf)
                try (rw [hb30]; conv => lhs; whnf)
                try (rw [hb30]; conv => lhs; whnf)
                try (rw [hb30]; conv => lhs; whnf)
                rw [wrap_nat i19 (by have := hn_i19; omega)]
                exact hnx20 _ _ _ _ (fun kk => by kernel_rfl) h
              · replace h := ifT h (decT hb30)
                conv => lhs; whnf
                try (rw [hb30]; conv => lhs; whnf)
                try (rw [hb30]; conv => lhs; whnf)
                try (rw [hb30]; conv => lhs; whnf)
                obtain ⟨hg33, h⟩ := grd_inv h
                try (rw [allLen_map rI _ rI_len]; conv => lhs; whnf)
                try rw [List.length_map]
                try (rw [decide_eq_true hg33.1]; conv => lhs; whnf)
                try (rw [decide_eq_true hg33.2.1]; conv => lhs; whnf)
                try (rw [decide_eq_true hg33.2.2])
                conv => lhs; whnf
                try rw [cut_of (r := rI) (l := a_0.Map)]
                try (rw [hb30]; conv => lhs; whnf)
                try (rw [hb30]; conv => lhs; whnf)
                obtain ⟨y31, h_y31, h⟩ := callK_inv h
                rw [cl_eq hcl (L_slices_Contains ((a_0.Map.drop (Int.toNat 0)).take (Int.toNat (i19 : Int) - Int.toNat 0)) x21 h_y31)]
                rotate_left
                · show _ = _
                  kernel_rfl
                · show _ = _
                  kernel_rfl
                conv => lhs; whnf
                try (rw [hb30]; conv => lhs; whnf)
                cases hb32 : y31
                · replace h := ifF h (booF hb32)
                  conv => lhs; whnf
                  rw [wrap_nat i19 (by have := hn_i19; omega)]
                  exact hnx20 _ _ _ _ (fun kk => by kernel_rfl) h
                · replace h := ifT h hb32
                  conv => lhs; whnf
                  obtain rfl := Option.some.inj h
                  show _ = _
                  kernel_rfl
            · replace h := ifT h (decT hb24)
              conv => lhs; whnf
              try (rw [hb24]; conv => lhs; whnf)
              try (rw [hb24]; conv => lhs; whnf)
              try (rw [hb24]; conv => lhs; whnf)
              obtain ⟨x25, hq_x25, hx_x25', h⟩ := getK_inv h
              have hx_x25 := get_of (r := rB) hx_x25'
              try (rw [decide_eq_true hq_x25]; conv => lhs; whnf)
              rw [hx_x25]
              conv => lhs; whnf
              try (rw [hb24]; conv => lhs; whnf)
              rw [hx_x25]
              conv => lhs; whnf
              try (rw [hb23]; conv => lhs; whnf)
              try (rw [hb24]; conv => lhs; whnf)
              try (rw [hb23]; conv => lhs; whnf)
              cases hb26 : x25
              · replace h := ifF h (booF hb26)
                conv => lhs; whnf
                try (rw [hb26]; conv => lhs; whnf)
                try (rw [hb26]; conv => lhs; whnf)
                cases hb27 : (decide (x21 ≥ 0))
                · replace h := ifF h (decF hb27)
                  conv => lhs; whnf
                  try (rw [hb27]; conv => lhs; whnf)
                  try (rw [hb27]; conv => lhs; whnf)
                  try (rw [hb27]; conv => lhs; whnf)
                  try (rw [hb27]; conv => lhs; whnf)
                  try (rw [hb27]; conv => lhs; whnf)
                  try (rw [hb26]; conv => lhs; whnf)
                  try (rw [hb27]; conv => lhs; whnf)
                  try (rw [hb26]; conv => lhs; whnf)
                  rw [wrap_nat i19 (by have := hn_i19; omega)]
                  exact hnx20 _ _ _ _ (fun kk => by kernel_rfl) h
                · replace h := ifT h (decT hb27)
                  conv => lhs; whnf
                  try (rw [hb27]; conv => lhs; whnf)
                  try (rw [hb27]; conv => lhs; whnf)
                  try (rw [hb27]; conv => lhs; whnf)
                  obtain ⟨hg34, h⟩ := grd_inv h
                  try (rw [allLen_map rI _ rI_len]; conv => lhs; whnf)
                  try rw [List.length_map]
                  try (rw [decide_eq_true hg34.1]; conv => lhs; whnf)
                  try (rw [decide_eq_true hg34.2.1]; conv => lhs; whnf)
                  try (rw [decide_eq_true hg34.2.2])
                  conv => lhs; whnf
                  try rw [cut_of (r := rI) (l := a_0.Map)]
                  try (rw [hb27]; conv => lhs; whnf)
                  try (rw [hb27]; conv => lhs; whnf)
                  obtain ⟨y28, h_y28, h⟩ := callK_inv h
                  rw [cl_eq hcl (L_slices_Contains ((a_0.Map.drop (Int.toNat 0)).take (Int.toNat (i19 : Int) - Int.toNat 0)) x21 h_y28)]
                  rotate_left
                  · show _ = _
                    kernel_rfl
                  · show _ = _
                    kernel_rfl
                  conv => lhs; whnf
                  try (rw [hb26]; conv => lhs; whnf)
                  try (rw [hb27]; conv => lhs; whnf)
                  try (rw [hb26]; conv => lhs; whnf)
                  cases hb29 : y28
                  · replace h := ifF h (booF hb29)
                    conv => lhs; whnf
                    rw [wrap_nat i19 (by have := hn_i19; omega)]
                    exact hnx20 _ _ _ _ (fun kk => by kernel_rfl) h
                  · replace h := ifT h hb29
                    conv => lhs; whnf
                    obtain rfl := Option.some.inj h
                    show _ = _
                    kernel_rfl
              · replace h := ifT h hb26
                conv => lhs; whnf
                try (rw [hb26]; conv => lhs; whnf)
                try (rw [hb26]; conv => lhs; whnf)
                try (rw [hb26]; conv => lhs; whnf)
                try (rw [hb26]; conv => lhs; whnf)
                obtain rfl := Option.some.inj h
                show _ = _
                kernel_rfl
        · clear h
          rintro next_nx20 ⟨⟩ r h
          try dsimp only at h
          have hd_i19 : (decide ((a_0.Map.length : Int) < (a_0.Map.length : Int))) = false := decide_eq_false (by omega)
          conv => lhs; whnf
          rw [hd_i19]
          conv => lhs; whnf
          obtain rfl := Option.some.inj h
          show _ = _
          kernel_rfl
      · replace h := ifT h (bneT hb4)
        conv => lhs; whnf
        obtain rfl := Option.some.inj h
        show _ = _
        kernel_rfl

noncomputable def p_impl_isIndex (a_0 : Int) (a_1 : Int) : Option Bool :=
  some (inR a_0 0 (IntKind.i64.wrap (a_1 - 1)))

set_option maxHeartbeats 4000000 in
theorem L_impl_isIndex (a_0 : Int) (a_1 : Int) {r : Bool} (h : p_impl_isIndex a_0 a_1 = some r) : callL E 120 [IN a_0, IN a_1] ([] : Fo) = some (BO r, ([] : Fo)) := by
  unfold p_impl_isIndex at h
  refine callW (fu := Try.f120) rfl rfl rfl NN ?_
  intro lp cl hlp hcl
  conv => lhs; whnf
  rw [cl_eq hcl (L_impl_within a_0 0 (IntKind.i64.wrap (a_1 - 1)) (pl_within a_0 0 (IntKind.i64.wrap (a_1 - 1))))]
  rotate_left
  · show _ = _
    kernel_rfl
  · show _ = _
    kernel_rfl
  conv => lhs; whnf
  obtain rfl := Option.some.inj h
  show _ = _
  kernel_rfl

noncomputable def p_impl_PageMap_clone (a_0 : PageMap) : Option (Int × Int × (List Int) × (List Bool)) :=
  grd (appOk a_0.Map.length 8 = true) <|
  grd (appOk a_0.Trimmed.length 1 = true) <|
  some (a_0.Blocks, a_0.Pages, a_0.Map, a_0.Trimmed)

set_option maxHeartbeats 4000000 in
theorem L_impl_PageMap_clone (a_0 : PageMap) {r : (Int × Int × (List Int) × (List Bool))} (h : p_impl_PageMap_clone a_0 = some r) : callL E 134 [.agg [IN a_0.Blocks, IN a_0.Pages, .d (.arr (a_0.Map.map rI)), .d (.arr (a_0.Trimmed.map rB))]] ([] : Fo) = some (.agg [IN r.1, IN r.2.1, .sl 0, .sl 1], ([some (.arr 2 1 (r.2.2.1.map rI)), some (.arr 4 1 (r.2.2.2.map rB))] : Fo)) := by
  unfold p_impl_PageMap_clone at h
  refine callW (fu := Try.f134) rfl rfl rfl NN ?_
  intro lp cl hlp hcl
  conv => lhs; whnf
  obtain ⟨hg1, h⟩ := grd_inv h
  rw [cl_eq hcl (f_clone (rows := a_0.Map.map rI) rfl (app_eq hg1 (List.length_map ..) rfl) (allLen_map rI _ rI_len _) rfl)]
  rotate_left
  · exact rfl
  · exact rfl
  conv => lhs; whnf
  obtain ⟨hg2, h⟩ := grd_inv h
  rw [cl_eq hcl (f_clone (rows := a_0.Trimmed.map rB) rfl (app_eq hg2 (List.length_map ..) rfl) (allLen_map rB _ rB_len _) rfl)]
  rotate_left
  · exact rfl
  · exact rfl
  conv => lhs; whnf
  obtain rfl := Option.some.inj h
  show _ = _
  kernel_rfl

noncomputable def p_impl_SetPage (a_0 : PageMap) (a_1 : Int) (a_2 : Int) (a_3 : Bool) : Option (PageMap × Int) :=
  callK (p_impl_ValidMap a_0) fun y1 =>
  if y1 = true then
    callK (p_impl_isIndex a_1 (a_0.Map.length : Int)) fun y3 =>
    if y3 = true then
      callK (p_impl_PageMap_physical a_0) fun y5 =>
      if (inR a_2 0 (IntKind.i64.wrap (y5 - 1))) = true then
        callK (p_slices_Index a_0.Map a_2) fun y7 =>
        if y7 ≥ 0 then
          if ¬ y7 = a_1 then
            some ((⟨0, 0, ([] : List Int), ([] : List Bool)⟩ : PageMap), 5)
          else
            callK (p_impl_PageMap_clone a_0) fun y10 =>
            getK y10.2.2.1 a_1 fun x11 =>
            getK y10.2.2.2 a_1 fun x12 =>
            some ((⟨y10.1, y10.2.1, (y10.2.2.1.set (Int.toNat a_1) a_2), (y10.2.2.2.set (Int.toNat a_1) a_3)⟩ : PageMap), 0)
        else
          callK (p_impl_PageMap_clone a_0) fun y13 =>
          getK y13.2.2.1 a_1 fun x14 =>
          getK y13.2.2.2 a_1 fun x15 =>
          some ((⟨y13.1, y13.2.1, (y13.2.2.1.set (Int.toNat a_1) a_2), (y13.2.2.2.set (Int.toNat a_1) a_3)⟩ : PageMap), 0)
      else
        some ((⟨0, 0, ([] : List Int), ([] : List Bool)⟩ : PageMap), 2)
    else
      some ((⟨0, 0, ([] : List Int), ([] : List Bool)⟩ : PageMap), 2)
  else
    some ((⟨0, 0, ([] : List Int), ([] : List Bool)⟩ : PageMap), 1)

set_option maxHeartbeats 4000000 in
theorem L_impl_SetPage (a_0 : PageMap) (a_1 : Int) (a_2 : Int) (a_3 : Bool) {r : (PageMap × Int)} (h : p_impl_SetPage a_0 a_1 a_2 a_3 = some r) : callL E 37 [.agg [IN a_0.Blocks, IN a_0.Pages, .d (.arr (a_0.Map.map rI)), .d (.arr (a_0.Trimmed.map rB))], IN a_1, IN a_2, BO a_3] ([] : Fo) = some (.tup [.agg [IN r.1.Blocks, IN r.1.Pages, .d (.arr (r.1.Map.map rI)), .d (.arr (r.1.Trimmed.map rB))], IN r.2], ([] : Fo)) := by
  unfold p_impl_SetPage at h
  refine callW (fu := Try.f37) rfl rfl rfl NN ?_
  intro lp cl hlp hcl
  conv => lhs; whnf
  obtain ⟨y1, h_y1, h⟩ := callK_inv h
  rw [cl_eq hcl (L_impl_ValidMap a_0 h_y1)]
  rotate_left
  · show _ = _
    kernel_rfl
  · show _ = _
    kernel_rfl
  conv => lhs; whnf
  cases hb2 : y1
  · replace h := ifF h (booF hb2)
    conv => lhs; whnf
    obtain rfl := Option.some.inj h
    show _ = _
    kernel_rfl
  · replace h := ifT h hb2
    try rw [hb2] at h
    conv => lhs; whnf
    try rw [len_of (l := a_0.Map) (r := rI)]
    obtain ⟨y3, h_y3, h⟩ := callK_inv h
    rw [cl_eq hcl (L_impl_isIndex a_1 (a_0.Map.length : Int) h_y3)]
    rotate_left
    · show _ = _
      kernel_rfl
    · show _ = _
      kernel_rfl
    conv => lhs; whnf
    cases hb4 : y3
    · replace h := ifF h (booF hb4)
      conv => lhs; whnf
      try (rw [hb4]; conv => lhs; whnf)
      try (rw [hb4]; conv => lhs; whnf)
      try (rw [hb4]; conv => lhs; whnf)
      try (rw [hb4]; conv => lhs; whnf)
      try (rw [hb4]; conv => lhs; whnf)
      try (rw [hb4]; conv => lhs; whnf)
      obtain rfl := Option.some.inj h
      show _ = _
      kernel_rfl
    · replace h := ifT h hb4
      conv => lhs; whnf
      try (rw [hb4]; conv => lhs; whnf)
      try (rw [hb4]; conv => lhs; whnf)
      obtain ⟨y5, h_y5, h⟩ := callK_inv h
      rw [cl_eq hcl (L_impl_PageMap_physical a_0 h_y5)]
      rotate_left
      · show _ = _
        kernel_rfl
      · show _ = _
        kernel_rfl
      conv => lhs; whnf
      try (rw [hb4]; conv => lhs; whnf)
      try (rw [hb4]; conv => lhs; whnf)
      rw [cl_eq hcl (L_impl_within a_2 0 (IntKind.i64.wrap (y5 - 1)) (pl_within a_2 0 (IntKind.i64.wrap (y5 - 1))))]
      rotate_left
      · show _ = _
        kernel_rfl
      · show _ = _
        kernel_rfl
      conv => lhs; whnf
      try (rw [hb4]; conv => lhs; whnf)
      try (rw [hb4]; conv => lhs; whnf)
      cases hb6 : (inR a_2 0 (IntKind.i64.wrap (y5 - 1)))
      · replace h := ifF h (booF hb6)
        conv => lhs; whnf
        obtain rfl := Option.some.inj h
        show _ = _
        kernel_rfl
      · replace h := ifT h hb6
        conv => lhs; whnf
        obtain ⟨y7, h_y7, h⟩ := callK_inv h
        rw [cl_eq hcl (L_slices_Index a_0.Map a_2 h_y7)]
        rotate_left
        · show _ = _
          kernel_rfl
        · show _ = _
          kernel_rfl
        conv => lhs; whnf
        cases hb8 : (decide (y7 ≥ 0))
        · replace h := ifF h (decF hb8)
          conv => lhs; whnf
          try (rw [hb8]; conv => lhs; whnf)
          try (rw [hb8]; conv => lhs; whnf)
          try (rw [hb8]; conv => lhs; whnf)
          obtain ⟨y13, h_y13, h⟩ := callK_inv h
          rw [cl_eq hcl (L_impl_PageMap_clone a_0 h_y13)]
          rotate_left
          · show _ = _
            kernel_rfl
          · show _ = _
            kernel_rfl
          conv => lhs; whnf
          obtain ⟨x14, hq_x14, hx_x14', h⟩ := getK_inv h
          have hx_x14 := get_of (r := rI) hx_x14'
          try (rw [decide_eq_true hq_x14]; conv => lhs; whnf)
          rw [hx_x14]
          conv => lhs; whnf
          rw [hx_x14]
          conv => lhs; whnf
          first | (rw [map_set_of (r := rI) (l := y13.2.2.1) (x := a_2) ?hh]; case hh => exact rfl) | skip
          obtain ⟨x15, hq_x15, hx_x15', h⟩ := getK_inv h
          have hx_x15 := get_of (r := rB) hx_x15'
          try (rw [decide_eq_true hq_x15]; conv => lhs; whnf)
          rw [hx_x15]
          conv => lhs; whnf
          rw [hx_x15]
          conv => lhs; whnf
          first | (rw [map_set_of (r := rB) (l := y13.2.2.2) (x := a_3) ?hh]; case hh => exact rfl) | skip
          obtain rfl := Option.some.inj h
          show _ = _
          kernel_rfl
        · replace h := ifT h (decT hb8)
          conv => lhs; whnf
          try (rw [hb8]; conv => lhs; whnf)
          try (rw [hb8]; conv => lhs; whnf)
          try (rw [hb8]; conv => lhs; whnf)
          cases hb9 : (y7 != a_1)
          · replace h := ifF h ((fun h => not_not_intro (bneF h)) hb9)
            conv => lhs; whnf
            obtain ⟨y10, h_y10, h⟩ := callK_inv h
            rw [cl_eq hcl (L_impl_PageMap_clone a_0 h_y10)]
            rotate_left
            · show _ = _
              kernel_rfl
            · show _ = _
              kernel_rfl
            conv => lhs; whnf
            obtain ⟨x11, hq_x11, hx_x11', h⟩ := getK_inv h
            have hx_x11 := get_of (r := rI) hx_x11'
            try (rw [decide_eq_true hq_x11]; conv => lhs; whnf)
            rw [hx_x11]
            conv => lhs; whnf
            rw [hx_x11]
            conv => lhs; whnf
            first | (rw [map_set_of (r := rI) (l := y10.2.2.1) (x := a_2) ?hh]; case hh => exact rfl) | skip
            obtain ⟨x12, hq_x12, hx_x12', h⟩ := getK_inv h
            have hx_x12 := get_of (r := rB) hx_x12'
            try (rw [decide_eq_true hq_x12]; conv => lhs; whnf)
            rw [hx_x12]
            conv => lhs; whnf
            rw [hx_x12]
            conv => lhs; whnf
            first | (rw [map_set_of (r := rB) (l := y10.2.2.2) (x := a_3) ?hh]; case hh => exact rfl) | skip
            obtain rfl := Option.some.inj h
            show _ = _
            kernel_rfl
          · replace h := ifT h (bneT hb9)
            conv => lhs; whnf
            obtain rfl := Option.some.inj h
            show _ = _
            kernel_rfl

noncomputable def p_spec_l09Size (a_0 : Int) (a_1 : Int) (a_2 : Int) : Option Bool :=
  if (inR a_0 1 48) = true then
    if (inR a_1 1 640) = true then
      if (inR a_2 1 640) = true then
        some (decide ((IntKind.i64.wrap (a_1 * a_2)) ≤ 640))
      else
        some false
    else
      some false
  else
    some false

set_option maxHeartbeats 4000000 in
theorem L_spec_l09Size (a_0 : Int) (a_1 : Int) (a_2 : Int) {r : Bool} (h : p_spec_l09Size a_0 a_1 a_2 = some r) : callL E 225 [IN a_0, IN a_1, IN a_2] ([] : Fo) = some (BO r, ([] : Fo)) := by
  unfold p_spec_l09Size at h
  refine callW (fu := Try.f225) rfl rfl rfl NN ?_
  intro lp cl hlp hcl
  conv => lhs; whnf
  rw [cl_eq hcl (L_spec_l00In a_0 1 48 (pl_l00In a_0 1 48))]
  rotate_left
  · show _ = _
    kernel_rfl
  · show _ = _
    kernel_rfl
  conv => lhs; whnf
  cases hb1 : (inR a_0 1 48)
  · replace h := ifF h (booF hb1)
    conv => lhs; whnf
    try (rw [hb1]; conv => lhs; whnf)
    try (rw [hb1]; conv => lhs; whnf)
    obtain rfl := Option.some.inj h
    show _ = _
    kernel_rfl
  · replace h := ifT h hb1
    conv => lhs; whnf
    try (rw [hb1]; conv => lhs; whnf)
    rw [cl_eq hcl (L_spec_l00In a_1 1 640 (pl_l00In a_1 1 640))]
    rotate_left
    · show _ = _
      kernel_rfl
    · show _ = _
      kernel_rfl
    conv => lhs; whnf
    try (rw [hb1]; conv => lhs; whnf)
    cases hb2 : (inR a_1 1 640)
    · replace h := ifF h (booF hb2)
      conv => lhs; whnf
      try (rw [hb2]; conv => lhs; whnf)
      try (rw [hb2]; conv => lhs; whnf)
      obtain rfl := Option.some.inj h
      show _ = _
      kernel_rfl
    · replace h := ifT h hb2
      conv => lhs; whnf
      try (rw [hb2]; conv => lhs; whnf)
      rw [cl_eq hcl (L_spec_l00In a_2 1 640 (pl_l00In a_2 1 640))]
      rotate_left
      · show _ = _
        kernel_rfl
      · show _ = _
        kernel_rfl
      conv => lhs; whnf
      try (rw [hb2]; conv => lhs; whnf)
      cases hb3 : (inR a_2 1 640)
      · replace h := ifF h (booF hb3)
        conv => lhs; whnf
        try (rw [hb3]; conv => lhs; whnf)
        try (rw [hb3]; conv => lhs; whnf)
        try (rw [hb3]; conv => lhs; whnf)
        try (rw [hb3]; conv => lhs; whnf)
        obtain rfl := Option.some.inj h
        show _ = _
        kernel_rfl
      · replace h := ifT h hb3
        conv => lhs; whnf
        try (rw [hb3]; conv => lhs; whnf)
        try (rw [hb3]; conv => lhs; whnf)
        try (rw [hb3]; conv => lhs; whnf)
        try (rw [hb3]; conv => lhs; whnf)
        obtain rfl := Option.some.inj h
        show _ = _
        kernel_rfl

noncomputable def p_spec_l09Ok (a_0 : PageMap) : Option Bool :=
  callK (p_spec_l09Size (a_0.Map.length : Int) a_0.Blocks a_0.Pages) fun y1 =>
  if y1 = true then
    if ¬ (a_0.Trimmed.length : Int) = (a_0.Map.length : Int) then
      some false
    else
      grd (a_0.Map.length < 4611686018427387904) <|
      forK a_0.Map (fun (i31 : Nat) x33 (_ : Unit) (nx32 : Unit → Option _) =>
        if (inR x33 (-1) (IntKind.i64.wrap ((IntKind.i64.wrap (a_0.Blocks * a_0.Pages)) - 1))) = true then
          if x33 < 0 then
            getK a_0.Trimmed (i31 : Int) fun x36 =>
            if x36 = true then
              some false
            else
              grd ((i31 : Int) < 4611686018427387904) <|
              forI (i31 : Int) (fun (i43 : Nat) (_ : Unit) (nx44 : Unit → Option _) =>
                if x33 ≥ 0 then
                  getK a_0.Map (i43 : Int) fun x46 =>
                  if x46 = x33 then
                    some false
                  else
                    nx44 ()
                else
                  nx44 ()) () (fun (_ : Unit) =>
                nx32 ())
          else
            grd ((i31 : Int) < 4611686018427387904) <|
            forI (i31 : Int) (fun (i53 : Nat) (_ : Unit) (nx54 : Unit → Option _) =>
              if x33 ≥ 0 then
                getK a_0.Map (i53 : Int) fun x56 =>
                if x56 = x33 then
                  some false
                else
                  nx54 ()
              else
                nx54 ()) () (fun (_ : Unit) =>
              nx32 ())
        else
          some false) () (fun (_ : Unit) =>
        some true)
  else
    some false

set_option maxHeartbeats 4000000 in
theorem L_spec_l09Ok (a_0 : PageMap) {r : Bool} (h : p_spec_l09Ok a_0 = some r) : callL E 135 [.bp 0 0] ([some (.box [IN a_0.Blocks, IN a_0.Pages, .d (.arr (a_0.Map.map rI)), .d (.arr (a_0.Trimmed.map rB))])] : Fo) = some (BO r, ([some (.box [IN a_0.Blocks, IN a_0.Pages, .d (.arr (a_0.Map.map rI)), .d (.arr (a_0.Trimmed.map rB))])] : Fo)) := by
  unfold p_spec_l09Ok at h
  refine callW (fu := Try.f135) rfl rfl rfl NN ?_
  intro lp cl hlp hcl
  conv => lhs; whnf
  try rw [len_of (l := a_0.Map) (r := rI)]
  obtain ⟨y1, h_y1, h⟩ := callK_inv h
  rw [cl_eq hcl (L_spec_l09Size (a_0.Map.length : Int) a_0.Blocks a_0.Pages h_y1)]
  rotate_left
  · show _ = _
    kernel_rfl
  · show _ = _
    kernel_rfl
  conv => lhs; whnf
  cases hb2 : y1
  · replace h := ifF h (booF hb2)
    conv => lhs; whnf
    try (rw [hb2]; conv => lhs; whnf)
    try (rw [hb2]; conv => lhs; whnf)
    try (rw [hb2]; conv => lhs; whnf)
    try (rw [hb2]; conv => lhs; whnf)
    try (rw [hb2]; conv => lhs; whnf)
    try (rw [hb2]; conv => lhs; whnf)
    try (rw [hb2]; conv => lhs; whnf)
    try (rw [hb2]; conv => lhs; whnf)
    try (rw [hb2]; conv => lhs; whnf)
    try (rw [hb2]; conv => lhs; whnf)
    try (rw [hb2]; conv => lhs; whnf)
    obtain rfl := Option.some.inj h
    show _ = _
    kernel_rfl
  · replace h := ifT h hb2
    conv => lhs; whnf
    try (rw [hb2]; conv => lhs; whnf)
    try (rw [hb2]; conv => lhs; whnf)
    try (rw [hb2]; conv => lhs; whnf)
    try (rw [hb2]; conv => lhs; whnf)
    try rw [len_of (l := a_0.Trimmed) (r := rB)]
    try (rw [hb2]; conv => lhs; whnf)
    try (rw [hb2]; conv => lhs; whnf)
    try (rw [hb2]; conv => lhs; whnf)
    try (rw [hb2]; conv => lhs; whnf)
    try (rw [hb2]; conv => lhs; whnf)
    try rw [len_of (l := a_0.Map) (r := rI)]
    try (rw [hb2]; conv => lhs; whnf)
    try (rw [hb2]; conv => lhs; whnf)
    cases hb3 : ((a_0.Trimmed.length : Int) != (a_0.Map.length : Int))
    · replace h := ifF h ((fun h => not_not_intro (bneF h)) hb3)
      conv => lhs; whnf
      obtain ⟨hl_i31, h⟩ := grd_inv h
      refine loop_for hlp (l := a_0.Map) hl_i31 (fun (i31 : Nat) (_ : Unit) => ([.bp 0 0, .dead, .dead, IN (i31 : Int)] ++ List.replicate 106 .dead : List V)) (fun (i31 : Nat) (_ : Unit) => ([some (.box [IN a_0.Blocks, IN a_0.Pages, .d (.arr (a_0.Map.map rI)), .d (.arr (a_0.Trimmed.map rB))])] : Fo)) (fun (r : Bool) => ((BO r : V), ([some (.box [IN a_0.Blocks, IN a_0.Pages, .d (.arr (a_0.Map.map rI)), .d (.arr (a_0.Trimmed.map rB))])] : Fo))) ?_ ?_ () _ (fun kk => by kernel_rfl) h
      · clear h
        rintro next_nx32 nx32 i31 hi_i31 hnx32 ⟨⟩ r h
        try dsimp only at h
        have hn_i31 : i31 < 4611686018427387904 := by omega
        have hx_x33 := get_map rI a_0.Map i31 hi_i31
        generalize a_0.Map[i31] = x33 at h hx_x33
        have hd_i31 : (decide ((i31 : Int) < (a_0.Map.length : Int))) = true := decide_eq_true (by omega)
        conv => lhs; whnf
        try rw [len_of (l := a_0.Map) (r := rI)]
        rw [hd_i31]
        conv => lhs; whnf
        try (rw [decide_eq_true hq_x33]; conv => lhs; whnf)
        rw [hx_x33]
        conv => lhs; whnf
        rw [hx_x33]
        conv => lhs; whnf
        rw [cl_eq hcl (L_spec_l00In x33 (-1) (IntKind.i64.wrap ((IntKind.i64.wrap (a_0.Blocks * a_0.Pages)) - 1)) (pl_l00In x33 (-1) (IntKind.i64.wrap ((IntKind.i64.wrap (a_0.Blocks * a_0.Pages)) - 1))))]
        rotate_left
        · show _ = _
          kernel_rfl
        · show _ = _
          kernel_rfl
        conv => lhs; whnf
        cases hb34 : (inR x33 (-1) (IntKind.i64.wrap ((IntKind.i64.wrap (a_0.Blocks * a_0.Pages)) - 1)))
        · replace h := ifF h (booF hb34)
          conv => lhs; whnf
          try (rw [hb34]; conv => lhs; whnf)
          try (rw [hb34]; conv => lhs; whnf)
          try (rw [hb34]; conv => lhs; whnf)
          try (rw [hb34]; conv => lhs; whnf)
          try (rw [hb34]; conv => lhs; whnf)
          try (rw [hb34]; conv => lhs; whnf)
          try (rw [hb34]; conv => lhs; whnf)
          try (rw [hb34]; conv => lhs; whnf)
          try (rw [hb34]; conv => lhs; whnf)
          try (rw [hb34]; conv => lhs; whnf)
          obtain rfl := Option.some.inj h
          show _ = _
          kernel_rfl
        · replace h := ifT h hb34
          conv => lhs; whnf
          try (rw [hb34]; conv => lhs; whnf)
          try (rw [hb34]; conv => lhs; whnf)
          try (rw [hb34]; conv => lhs; whnf)
          try (rw [hb34]; conv => lhs; whnf)
          try (rw [hb34]; conv => lhs; whnf)
          try (rw [decide_eq_true hq_x33]; conv => lhs; whnf)
          rw [hx_x33]
          conv => lhs; whnf
          try (rw [hb34]; conv => lhs; whnf)
          rw [hx_x33]
          conv => lhs; whnf
          try (rw [hb34]; conv => lhs; whnf)
          try (rw [hb34]; conv => lhs; whnf)
          cases hb35 : (decide (x33 < 0))
          · replace h := ifF h (decF hb35)
            conv => lhs; whnf
            try (rw [hb35]; conv => lhs; whnf)
            try (rw [hb35]; conv => lhs; whnf)
            try (rw [hb35]; conv => lhs; whnf)
            try (rw [hb35]; conv => lhs; whnf)
            try (rw [hb35]; conv => lhs; whnf)
            try (rw [hb35]; conv => lhs; whnf)
            try (rw [hb34]; conv => lhs; whnf)
            try (rw [hb35]; conv => lhs; whnf)
            try (rw [hb34]; conv => lhs; whnf)
            obtain ⟨hl_i53, h⟩ := grd_inv h
            refine loop_forI hlp (n := (i31 : Int)) hl_i53 (fun (i53 : Nat) (_ : Unit) => ([.bp 0 0, .dead, .dead, IN (i31 : Int), IN (i53 : Int)] ++ List.replicate 105 .dead : List V)) (fun (i53 : Nat) (_ : Unit) => ([some (.box [IN a_0.Blocks, IN a_0.Pages, .d (.arr (a_0.Map.map rI)), .d (.arr (a_0.Trimmed.map rB))])] : Fo)) (fun (r : Bool) => ((BO r : V), ([some (.box [IN a_0.Blocks, IN a_0.Pages, .d (.arr (a_0.Map.map rI)), .d (.arr (a_0.Trimmed.map rB))])] : Fo))) ?_ ?_ () _ (fun kk => by kernel_rfl) h
            · clear h
              rintro next_nx54 nx54 i53 hi_i53 hnx54 ⟨⟩ r h
              try dsimp only at h
              have hn_i53 : i53 < 4611686018427387904 := by omega
              have hd_i53 : (decide ((i53 : Int) < (i31 : Int))) = true := decide_eq_true (by omega)
              conv => lhs; whnf
              rw [hd_i53]
              conv => lhs; whnf
              try (rw [decide_eq_true hq_x33]; conv => lhs; whnf)
              rw [hx_x33]
              conv => lhs; whnf
              rw [hx_x33]
              conv => lhs; whnf
              cases hb55 : (decide (x33 ≥ 0))
              · replace h := ifF h (decF hb55)
                conv => lhs; whnf
                try (rw [hb55]; conv => lhs; whnf)
                try (rw [hb55]; conv => lhs; whnf)
                try (rw [hb55]; conv => lhs; whnf)
                try (rw [hb55]; conv => lhs; whnf)
                try (rw [hb55]; conv => lhs; whnf)
                try (rw [hb55]; conv => lhs; whnf)
                try (rw [hb55]; conv => lhs; whnf)
                try (rw [hb55]; conv => lhs; whnf)
                try (rw [hb55]; conv => lhs; whnf)
                try (rw [hb55]; conv => lhs; whnf)
                try (rw [hb55]; conv => lhs; whnf)
                try (rw [hb55]; conv => lhs; whnf)
                try (rw [hb55]; conv => lhs; whnf)
                try (rw [hb55]; conv => lhs; whnf)
                try (rw [hb55]; conv => lhs; whnf)
                rw [wrap_nat i53 (by have := hn_i53; omega)]
                exact hnx54 _ _ _ _ (fun kk => by kernel_rfl) h
              · replace h := ifT h (decT hb55)
                conv => lhs; whnf
                try (rw [hb55]; conv => lhs; whnf)
                try (rw [hb55]; conv => lhs; whnf)
                try (rw [hb55]; conv => lhs; whnf)
                try (rw [hb55]; conv => lhs; whnf)
                try (rw [hb55]; conv => lhs; whnf)
                obtain ⟨x56, hq_x56, hx_x56', h⟩ := getK_inv h
                have hx_x56 := get_of (r := rI) hx_x56'
                try (rw [decide_eq_true hq_x56]; conv => lhs; whnf)
                rw [hx_x56]
                conv => lhs; whnf
                try (rw [hb55]; conv => lhs; whnf)
                rw [hx_x56]
                conv => lhs; whnf
                try (rw [hb55]; conv => lhs; whnf)
                try (rw [hb55]; conv => lhs; whnf)
                try (rw [hb55]; conv => lhs; whnf)
                try (rw [hb55]; conv => lhs; whnf)
                try (rw [hb55]; conv => lhs; whnf)
                try (rw [hb55]; conv => lhs; whnf)
                try (rw [decide_eq_true hq_x33]; conv => lhs; whnf)
                rw [hx_x33]
                conv => lhs; whnf
                try (rw [hb55]; conv => lhs; whnf)
                rw [hx_x33]
                conv => lhs; whnf
                try (rw [hb55]; conv => lhs; whnf)
                try (rw [hb55]; conv => lhs; whnf)
                cases hb57 : (x56 == x33)
                · replace h := ifF h (beqF hb57)
                  conv => lhs; whnf
                  rw [wrap_nat i53 (by have := hn_i53; omega)]
                  exact hnx54 _ _ _ _ (fun kk => by kernel_rfl) h
                · replace h := ifT h (beqT hb57)
                  conv => lhs; whnf
                  obtain rfl := Option.some.inj h
                  show _ = _
                  kernel_rfl
            · clear h
              rintro next_nx54 ⟨⟩ r h
              try dsimp only at h
              have hd_i53 : (decide (((Int.toNat (i31 : Int)) : Int) < (i31 : Int))) = false := decide_eq_false (by omega)
              conv => lhs; whnf
              rw [hd_i53]
              conv => lhs; whnf
              rw [wrap_nat i31 (by have := hn_i31; omega)]
              exact hnx32 _ _ _ _ (fun kk => by kernel_rfl) h
          · replace h := ifT h (decT hb35)
            conv => lhs; whnf
            try (rw [hb35]; conv => lhs; whnf)
            try (rw [hb35]; conv => lhs; whnf)
            try (rw [hb35]; conv => lhs; whnf)
            try (rw [hb35]; conv => lhs; whnf)
            try (rw [hb35]; conv => lhs; whnf)
            obtain ⟨x36, hq_x36, hx_x36', h⟩ := getK_inv h
            have hx_x36 := get_of (r := rB) hx_x36'
            try (rw [decide_eq_true hq_x36]; conv => lhs; whnf)
            rw [hx_x36]
            conv => lhs; whnf
            try (rw [hb35]; conv => lhs; whnf)
            rw [hx_x36]
            conv => lhs; whnf
            try (rw [hb34]; conv => lhs; whnf)
            try (rw [hb35]; conv => lhs; whnf)
            try (rw [hb34]; conv => lhs; whnf)
            cases hb37 : x36
            · replace h := ifF h (booF hb37)
              conv => lhs; whnf
              obtain ⟨hl_i43, h⟩ := grd_inv h
              refine loop_forI hlp (n := (i31 : Int)) hl_i43 (fun (i43 : Nat) (_ : Unit) => ([.bp 0 0, .dead, .dead, IN (i31 : Int), IN (i43 : Int)] ++ List.replicate 105 .dead : List V)) (fun (i43 : Nat) (_ : Unit) => ([some (.box [IN a_0.Blocks, IN a_0.Pages, .d (.arr (a_0.Map.map rI)), .d (.arr (a_0.Trimmed.map rB))])] : Fo)) (fun (r : Bool) => ((BO r : V), ([some (.box [IN a_0.Blocks, IN a_0.Pages, .d (.arr (a_0.Map.map rI)), .d (.arr (a_0.Trimmed.map rB))])] : Fo))) ?_ ?_ () _ (fun kk => by kernel_rfl) h
              · clear h
                rintro next_nx44 nx44 i43 hi_i43 hnx44 ⟨⟩ r h
                try dsimp only at h
                have hn_i43 : i43 < 4611686018427387904 := by omega
                have hd_i43 : (decide ((i43 : Int) < (i31 : Int))) = true := decide_eq_true (by omega)
                conv => lhs; whnf
                rw [hd_i43]
                conv => lhs; whnf
                try (rw [decide_eq_true hq_x33]; conv => lhs; whnf)
                rw [hx_x33]
                conv => lhs; whnf
                rw [hx_x33]
                conv => lhs; whnf
                cases hb45 : (decide (x33 ≥ 0))
                · replace h := ifF h (decF hb45)
                  conv => lhs; whnf
                  try (rw [hb45]; conv => lhs; whnf)
                  try (rw [hb45]; conv => lhs; whnf)
                  try (rw [hb45]; conv => lhs; whnf)
                  try (rw [hb45]; conv => lhs; whnf)
                  try (rw [hb45]; conv => lhs; whnf)
                  try (rw [hb45]; conv => lhs; whnf)
                  try (rw [hb45]; conv => lhs; whnf)
                  try (rw [hb45]; conv => lhs; whnf)
                  try (rw [hb45]; conv => lhs; whnf)
                  try (rw [hb45]; conv => lhs; whnf)
                  try (rw [hb45]; conv => lhs; whnf)
                  try (rw [hb45]; conv => lhs; whnf)
                  try (rw [hb45]; conv => lhs; whnf)
                  try (rw [hb45]; conv => lhs; whnf)
                  try (rw [hb45]; conv => lhs; whnf)
                  rw [wrap_nat i43 (by have := hn_i43; omega)]
                  exact hnx44 _ _ _ _ (fun kk => by kernel_rfl) h
                · replace h := ifT h (decT hb45)
                  conv => lhs; whnf
                  try (rw [hb45]; conv => lhs; whnf)
                  try (rw [hb45]; conv => lhs; whnf)
                  try (rw [hb45]; conv => lhs; whnf)
                  try (rw [hb45]; conv => lhs; whnf)
                  try (rw [hb45]; conv => lhs; whnf)
                  obtain ⟨x46, hq_x46, hx_x46', h⟩ := getK_inv h
                  have hx_x46 := get_of (r := rI) hx_x46'
                  try (rw [decide_eq_true hq_x46]; conv => lhs; whnf)
                  rw [hx_x46]
                  conv => lhs; whnf
                  try (rw [hb45]; conv => lhs; whnf)
                  rw [hx_x46]
                  conv => lhs; whnf
                  try (rw [hb45]; conv => lhs; whnf)
                  try (rw [hb45]; conv => lhs; whnf)
                  try (rw [hb45]; conv => lhs; whnf)
                  try (rw [hb45]; conv => lhs; whnf)
                  try (rw [hb45]; conv => lhs; whnf)
                  try (rw [hb45]; conv => lhs; whnf)
                  try (rw [decide_eq_true hq_x33]; conv => lhs; whnf)
                  rw [hx_x33]
                  conv => lhs; whnf
                  try (rw [hb45]; conv => lhs; whnf)
                  rw [hx_x33]
                  conv => lhs; whnf
                  try (rw [hb45]; conv => lhs; whnf)
                  try (rw [hb45]; conv => lhs; whnf)
                  cases hb47 : (x46 == x33)
                  · replace h := ifF h (beqF hb47)
                    conv => lhs; whnf
                    rw [wrap_nat i43 (by have := hn_i43; omega)]
                    exact hnx44 _ _ _ _ (fun kk => by kernel_rfl) h
                  · replace h := ifT h (beqT hb47)
                    conv => lhs; whnf
                    obtain rfl := Option.some.inj h
                    show _ = _
                    kernel_rfl
              · clear h
                rintro next_nx44 ⟨⟩ r h
                try dsimp only at h
                have hd_i43 : (decide (((Int.toNat (i31 : Int)) : Int) < (i31 : Int))) = false := decide_eq_false (by omega)
                conv => lhs; whnf
                rw [hd_i43]
                conv => lhs; whnf
                rw [wrap_nat i31 (by have := hn_i31; omega)]
                exact hnx32 _ _ _ _ (fun kk => by kernel_rfl) h
            · replace h := ifT h hb37
              conv => lhs; whnf
              obtain rfl := Option.some.inj h
              show _ = _
              kernel_rfl
      · clear h
        rintro next_nx32 ⟨⟩ r h
        try dsimp only at h
        have hd_i31 : (decide ((a_0.Map.length : Int) < (a_0.Map.length : Int))) = false := decide_eq_false (by omega)
        conv => lhs; whnf
        try rw [len_of (l := a_0.Map) (r := rI)]
        rw [hd_i31]
        conv => lhs; whnf
        obtain rfl := Option.some.inj h
        show _ = _
        kernel_rfl
    · replace h := ifT h (bneT hb3)
      conv => lhs; whnf
      obtain rfl := Option.some.inj h
      show _ = _
      kernel_rfl

noncomputable def p_spec_l09At' (a_0 : Int) (a_1 : PageMap) : Option Int :=
  grd (a_1.Map.length < 4611686018427387904) <|
  forK a_1.Map (fun (i6 : Nat) x8 (_ : Unit) (nx7 : Unit → Option _) =>
    if a_0 ≥ 0 then
      if x8 = a_0 then
        some (i6 : Int)
      else
        nx7 ()
    else
      nx7 ()) () (fun (_ : Unit) =>
    some (-1))

set_option maxHeartbeats 4000000 in
theorem L_spec_l09At' (a_0 : Int) (a_1 : PageMap) {r : Int} (h : p_spec_l09At' a_0 a_1 = some r) : callL E 136 [.bp 0 0, IN a_0] ([some (.box [IN a_1.Blocks, IN a_1.Pages, .d (.arr (a_1.Map.map rI)), .d (.arr (a_1.Trimmed.map rB))])] : Fo) = some (IN r, ([some (.box [IN a_1.Blocks, IN a_1.Pages, .d (.arr (a_1.Map.map rI)), .d (.arr (a_1.Trimmed.map rB))])] : Fo)) := by
  unfold p_spec_l09At' at h
  refine callW (fu := Try.f136) rfl rfl rfl NN ?_
  intro lp cl hlp hcl
  conv => lhs; whnf
  obtain ⟨hl_i6, h⟩ := grd_inv h
  refine loop_for hlp (l := a_1.Map) hl_i6 (fun (i6 : Nat) (_ : Unit) => ([.bp 0 0, IN a_0, .dead, .dead, .dead, IN (i6 : Int)] ++ List.replicate 23 .dead : List V)) (fun (i6 : Nat) (_ : Unit) => ([some (.box [IN a_1.Blocks, IN a_1.Pages, .d (.arr (a_1.Map.map rI)), .d (.arr (a_1.Trimmed.map rB))])] : Fo)) (fun (r : Int) => ((IN r : V), ([some (.box [IN a_1.Blocks, IN a_1.Pages, .d (.arr (a_1.Map.map rI)), .d (.arr (a_1.Trimmed.map rB))])] : Fo))) ?_ ?_ () _ (fun kk => by kernel_rfl) h
  · clear h
    rintro next_nx7 nx7 i6 hi_i6 hnx7 ⟨⟩ r h
    try dsimp only at h
    have hn_i6 : i6 < 4611686018427387904 := by omega
    have hx_x8 := get_map rI a_1.Map i6 hi_i6
    generalize a_1.Map[i6] = x8 at h hx_x8
    have hd_i6 : (decide ((i6 : Int) < (a_1.Map.length : Int))) = true := decide_eq_true (by omega)
    conv => lhs; whnf
    try rw [len_of (l := a_1.Map) (r := rI)]
    rw [hd_i6]
    conv => lhs; whnf
    cases hb9 : (decide (a_0 ≥ 0))
    · replace h := ifF h (decF hb9)
      conv => lhs; whnf
      try (rw [hb9]; conv => lhs; whnf)
      try (rw [hb9]; conv => lhs; whnf)
      try (rw [hb9]; conv => lhs; whnf)
      try (rw [hb9]; conv => lhs; whnf)
      try (rw [hb9]; conv => lhs; whnf)
      try (rw [hb9]; conv => lhs; whnf)
      try (rw [hb9]; conv => lhs; whnf)
      try (rw [hb9]; conv => lhs; whnf)
      try (rw [hb9]; conv => lhs; whnf)
      rw [wrap_nat i6 (by have := hn_i6; omega)]
      exact hnx7 _ _ _ _ (fun kk => by kernel_rfl) h
    · replace h := ifT h (decT hb9)
      conv => lhs; whnf
      try (rw [hb9]; conv => lhs; whnf)
      try (rw [hb9]; conv => lhs; whnf)
      try (rw [hb9]; conv => lhs; whnf)
      try (rw [hb9]; conv => lhs; whnf)
      try (rw [hb9]; conv => lhs; whnf)
      try (rw [decide_eq_true hq_x8]; conv => lhs; whnf)
      rw [hx_x8]
      conv => lhs; whnf
      try (rw [hb9]; conv => lhs; whnf)
      rw [hx_x8]
      conv => lhs; whnf
      try (rw [hb9]; conv => lhs; whnf)
      try (rw [hb9]; conv => lhs; whnf)
      try (rw [hb9]; conv => lhs; whnf)
      cases hb10 : (x8 == a_0)
      · replace h := ifF h (beqF hb10)
        conv => lhs; whnf
        rw [wrap_nat i6 (by have := hn_i6; omega)]
        exact hnx7 _ _ _ _ (fun kk => by kernel_rfl) h
      · replace h := ifT h (beqT hb10)
        conv => lhs; whnf
        obtain rfl := Option.some.inj h
        show _ = _
        kernel_rfl
  · clear h
    rintro next_nx7 ⟨⟩ r h
    try dsimp only at h
    have hd_i6 : (decide ((a_1.Map.length : Int) < (a_1.Map.length : Int))) = false := decide_eq_false (by omega)
    conv => lhs; whnf
    try rw [len_of (l := a_1.Map) (r := rI)]
    rw [hd_i6]
    conv => lhs; whnf
    obtain rfl := Option.some.inj h
    show _ = _
    kernel_rfl

noncomputable def p_spec_l00Own (a_0 : List Int) : Option Unit :=
  grd (appOk (0 + a_0.length) 8 = true) <|
  some ()

set_option maxHeartbeats 4000000 in
theorem L_spec_l00Own (a_0 : List Int) {r : Unit} (h : p_spec_l00Own a_0 = some r) : callL E 219 [.d (.arr (a_0.map rI))] ([] : Fo) = some (.sl 0, ([some (.arr 2 1 (a_0.map rI))] : Fo)) := by
  unfold p_spec_l00Own at h
  refine callW (fu := Try.f219) rfl rfl rfl NN ?_
  intro lp cl hlp hcl
  conv => lhs; whnf
  obtain ⟨hg1, h⟩ := grd_inv h
  rw [app_eq hg1 ?h1 ?h2]
  case h1 => first | exact rfl | (simp only [List.length_map, List.length_cons, List.length_nil]; done) | (rw [List.length_map]; rfl)
  case h2 => exact rfl
  conv => lhs; whnf
  rw [allLen_map rI _ rI_len]
  conv => lhs; whnf
  first | (rw [nil_app_of (r := rI) (m := a_0) ?hh]; case hh => exact rfl) | skip
  obtain rfl := Option.some.inj h
  show _ = _
  kernel_rfl

noncomputable def p_spec_l09Own (a_0 : PageMap) : Option (Int × Int × (List Int) × (List Bool)) :=
  callK (p_spec_l00Own a_0.Map) fun y1 =>
  grd (appOk a_0.Trimmed.length 1 = true) <|
  some (a_0.Blocks, a_0.Pages, a_0.Map, a_0.Trimmed)

set_option maxHeartbeats 4000000 in
theorem L_spec_l09Own (a_0 : PageMap) {r : (Int × Int × (List Int) × (List Bool))} (h : p_spec_l09Own a_0 = some r) : callL E 137 [.bp 0 0] ([some (.box [IN a_0.Blocks, IN a_0.Pages, .d (.arr (a_0.Map.map rI)), .d (.arr (a_0.Trimmed.map rB))])] : Fo) = some (.agg [IN r.1, IN r.2.1, .sl 1, .sl 2], ([some (.box [IN a_0.Blocks, IN a_0.Pages, .d (.arr (a_0.Map.map rI)), .d (.arr (a_0.Trimmed.map rB))]), some (.arr 2 1 (r.2.2.1.map rI)), some (.arr 4 1 (r.2.2.2.map rB))] : Fo)) := by
  unfold p_spec_l09Own at h
  refine callW (fu := Try.f137) rfl rfl rfl NN ?_
  intro lp cl hlp hcl
  conv => lhs; whnf
  obtain ⟨y1, h_y1, h⟩ := callK_inv h
  rw [cl_eq hcl (L_spec_l00Own a_0.Map h_y1)]
  rotate_left
  · show _ = _
    kernel_rfl
  · show _ = _
    kernel_rfl
  conv => lhs; whnf
  obtain ⟨hg2, h⟩ := grd_inv h
  rw [app_eq hg2 ?h1 ?h2]
  case h1 => first | exact rfl | (rw [List.length_map]; done) | (rw [List.length_map]; rfl)
  case h2 => exact rfl
  conv => lhs; whnf
  rw [allLen_map rB _ rB_len]
  conv => lhs; whnf
  obtain rfl := Option.some.inj h
  show _ = _
  kernel_rfl

noncomputable def p_spec_SetPage (a_0 : PageMap) (a_1 : Int) (a_2 : Int) (a_3 : Bool) : Option (PageMap × Int) :=
  callK (p_spec_l09Ok a_0) fun y1 =>
  if y1 = true then
    if (inR a_1 0 (IntKind.i64.wrap ((a_0.Map.length : Int) - 1))) = true then
      if (inR a_2 0 (IntKind.i64.wrap ((IntKind.i64.wrap (a_0.Blocks * a_0.Pages)) - 1))) = true then
        callK (p_spec_l09At' a_2 a_0) fun y5 =>
        if y5 ≥ 0 then
          if ¬ y5 = a_1 then
            some ((⟨0, 0, ([] : List Int), ([] : List Bool)⟩ : PageMap), 5)
          else
            callK (p_spec_l09Own a_0) fun y8 =>
            getK y8.2.2.1 a_1 fun x9 =>
            getK y8.2.2.2 a_1 fun x10 =>
            some ((⟨y8.1, y8.2.1, (y8.2.2.1.set (Int.toNat a_1) a_2), (y8.2.2.2.set (Int.toNat a_1) a_3)⟩ : PageMap), 0)
        else
          callK (p_spec_l09Own a_0) fun y11 =>
          getK y11.2.2.1 a_1 fun x12 =>
          getK y11.2.2.2 a_1 fun x13 =>
          some ((⟨y11.1, y11.2.1, (y11.2.2.1.set (Int.toNat a_1) a_2), (y11.2.2.2.set (Int.toNat a_1) a_3)⟩ : PageMap), 0)
      else
        some ((⟨0, 0, ([] : List Int), ([] : List Bool)⟩ : PageMap), 2)
    else
      some ((⟨0, 0, ([] : List Int), ([] : List Bool)⟩ : PageMap), 2)
  else
    some ((⟨0, 0, ([] : List Int), ([] : List Bool)⟩ : PageMap), 1)

set_option maxHeartbeats 4000000 in
theorem L_spec_SetPage (a_0 : PageMap) (a_1 : Int) (a_2 : Int) (a_3 : Bool) {r : (PageMap × Int)} (h : p_spec_SetPage a_0 a_1 a_2 a_3 = some r) : callL E 38 [.agg [IN a_0.Blocks, IN a_0.Pages, .d (.arr (a_0.Map.map rI)), .d (.arr (a_0.Trimmed.map rB))], IN a_1, IN a_2, BO a_3] ([] : Fo) = some (.tup [.agg [IN r.1.Blocks, IN r.1.Pages, .d (.arr (r.1.Map.map rI)), .d (.arr (r.1.Trimmed.map rB))], IN r.2], ([] : Fo)) := by
  unfold p_spec_SetPage at h
  refine callW (fu := Try.f38) rfl rfl rfl NN ?_
  intro lp cl hlp hcl
  conv => lhs; whnf
  obtain ⟨y1, h_y1, h⟩ := callK_inv h
  rw [cl_eq hcl (L_spec_l09Ok a_0 h_y1)]
  rotate_left
  · show _ = _
    kernel_rfl
  · show _ = _
    kernel_rfl
  conv => lhs; whnf
  cases hb2 : y1
  · replace h := ifF h (booF hb2)
    conv => lhs; whnf
    obtain rfl := Option.some.inj h
    show _ = _
    kernel_rfl
  · replace h := ifT h hb2
    try rw [hb2] at h
    conv => lhs; whnf
    try rw [len_of (l := a_0.Map) (r := rI)]
    rw [cl_eq hcl (L_spec_l00In a_1 0 (IntKind.i64.wrap ((a_0.Map.length : Int) - 1)) (pl_l00In a_1 0 (IntKind.i64.wrap ((a_0.Map.length : Int) - 1))))]
    rotate_left
    · show _ = _
      kernel_rfl
    · show _ = _
      kernel_rfl
    conv => lhs; whnf
    cases hb3 : (inR a_1 0 (IntKind.i64.wrap ((a_0.Map.length : Int) - 1)))
    · replace h := ifF h (booF hb3)
      conv => lhs; whnf
      try (rw [hb3]; conv => lhs; whnf)
      try (rw [hb3]; conv => lhs; whnf)
      try (rw [hb3]; conv => lhs; whnf)
      try (rw [hb3]; conv => lhs; whnf)
      try (rw [hb3]; conv => lhs; whnf)
      try (rw [hb3]; conv => lhs; whnf)
      try (rw [hb3]; conv => lhs; whnf)
      try (rw [hb3]; conv => lhs; whnf)
      try (rw [hb3]; conv => lhs; whnf)
      obtain rfl := Option.some.inj h
      show _ = _
      kernel_rfl
    · replace h := ifT h hb3
      conv => lhs; whnf
      try (rw [hb3]; conv => lhs; whnf)
      try (rw [hb3]; conv => lhs; whnf)
      try (rw [hb3]; conv => lhs; whnf)
      try (rw [hb3]; conv => lhs; whnf)
      try (rw [hb3]; conv => lhs; whnf)
      try (rw [hb3]; conv => lhs; whnf)
      try (rw [hb3]; conv => lhs; whnf)
      rw [cl_eq hcl (L_spec_l00In a_2 0 (IntKind.i64.wrap ((IntKind.i64.wrap (a_0.Blocks * a_0.Pages)) - 1)) (pl_l00In a_2 0 (IntKind.i64.wrap ((IntKind.i64.wrap (a_0.Blocks * a_0.Pages)) - 1))))]
      rotate_left
      · show _ = _
        kernel_rfl
      · show _ = _
        kernel_rfl
      conv => lhs; whnf
      try (rw [hb3]; conv => lhs; whnf)
      try (rw [hb3]; conv => lhs; whnf)
      cases hb4 : (inR a_2 0 (IntKind.i64.wrap ((IntKind.i64.wrap (a_0.Blocks * a_0.Pages)) - 1)))
      · replace h := ifF h (booF hb4)
        conv => lhs; whnf
        obtain rfl := Option.some.inj h
        show _ = _
        kernel_rfl
      · replace h := ifT h hb4
        conv => lhs; whnf
        obtain ⟨y5, h_y5, h⟩ := callK_inv h
        rw [cl_eq hcl (L_spec_l09At' a_2 a_0 h_y5)]
        rotate_left
        · show _ = _
          kernel_rfl
        · show _ = _
          kernel_rfl
        conv => lhs; whnf
        cases hb6 : (decide (y5 ≥ 0))
        · replace h := ifF h (decF hb6)
          conv => lhs; whnf
          try (rw [hb6]; conv => lhs; whnf)
          try (rw [hb6]; conv => lhs; whnf)
          try (rw [hb6]; conv => lhs; whnf)
          obtain ⟨y11, h_y11, h⟩ := callK_inv h
          rw [cl_eq hcl (L_spec_l09Own a_0 h_y11)]
          rotate_left
          · show _ = _
            kernel_rfl
          · show _ = _
            kernel_rfl
          conv => lhs; whnf
          obtain ⟨x12, hq_x12, hx_x12', h⟩ := getK_inv h
          have hx_x12 := get_of (r := rI) hx_x12'
          try (rw [decide_eq_true hq_x12]; conv => lhs; whnf)
          rw [hx_x12]
          conv => lhs; whnf
          rw [hx_x12]
          conv => lhs; whnf
          first | (rw [map_set_of (r := rI) (l := y11.2.2.1) (x := a_2) ?hh]; case hh => exact rfl) | skip
          obtain ⟨x13, hq_x13, hx_x13', h⟩ := getK_inv h
          have hx_x13 := get_of (r := rB) hx_x13'
          try (rw [decide_eq_true hq_x13]; conv => lhs; whnf)
          rw [hx_x13]
          conv => lhs; whnf
          rw [hx_x13]
          conv => lhs; whnf
          first | (rw [map_set_of (r := rB) (l := y11.2.2.2) (x := a_3) ?hh]; case hh => exact rfl) | skip
          obtain rfl := Option.some.inj h
          show _ = _
          kernel_rfl
        · replace h := ifT h (decT hb6)
          conv => lhs; whnf
          try (rw [hb6]; conv => lhs; whnf)
          try (rw [hb6]; conv => lhs; whnf)
          try (rw [hb6]; conv => lhs; whnf)
          cases hb7 : (y5 != a_1)
          · replace h := ifF h ((fun h => not_not_intro (bneF h)) hb7)
            conv => lhs; whnf
            obtain ⟨y8, h_y8, h⟩ := callK_inv h
            rw [cl_eq hcl (L_spec_l09Own a_0 h_y8)]
            rotate_left
            · show _ = _
              kernel_rfl
            · show _ = _
              kernel_rfl
            conv => lhs; whnf
            obtain ⟨x9, hq_x9, hx_x9', h⟩ := getK_inv h
            have hx_x9 := get_of (r := rI) hx_x9'
            try (rw [decide_eq_true hq_x9]; conv => lhs; whnf)
            rw [hx_x9]
            conv => lhs; whnf
            rw [hx_x9]
            conv => lhs; whnf
            first | (rw [map_set_of (r := rI) (l := y8.2.2.1) (x := a_2) ?hh]; case hh => exact rfl) | skip
            obtain ⟨x10, hq_x10, hx_x10', h⟩ := getK_inv h
            have hx_x10 := get_of (r := rB) hx_x10'
            try (rw [decide_eq_true hq_x10]; conv => lhs; whnf)
            rw [hx_x10]
            conv => lhs; whnf
            rw [hx_x10]
            conv => lhs; whnf
            first | (rw [map_set_of (r := rB) (l := y8.2.2.2) (x := a_3) ?hh]; case hh => exact rfl) | skip
            obtain rfl := Option.some.inj h
            show _ = _
            kernel_rfl
          · replace h := ifT h (bneT hb7)
            conv => lhs; whnf
            obtain rfl := Option.some.inj h
            show _ = _
            kernel_rfl

noncomputable def p_spec_l00Same (a_0 : List Int) (a_1 : List Int) : Option Bool :=
  if ¬ (a_0.length : Int) = (a_1.length : Int) then
    some false
  else
    grd (a_0.length < 4611686018427387904) <|
    forK a_0 (fun (i7 : Nat) x9 (_ : Unit) (nx8 : Unit → Option _) =>
      getK a_1 (i7 : Int) fun x10 =>
      if ¬ x9 = x10 then
        some false
      else
        nx8 ()) () (fun (_ : Unit) =>
      some true)

set_option maxHeartbeats 4000000 in
theorem L_spec_l00Same (a_0 : List Int) (a_1 : List Int) {r : Bool} (h : p_spec_l00Same a_0 a_1 = some r) : callL E 127 [.d (.arr (a_0.map rI)), .d (.arr (a_1.map rI))] ([] : Fo) = some (BO r, ([] : Fo)) := by
  unfold p_spec_l00Same at h
  refine callW (fu := Try.f127) rfl rfl rfl NN ?_
  intro lp cl hlp hcl
  conv => lhs; whnf
  try rw [len_of (l := a_0) (r := rI)]
  try rw [len_of (l := a_1) (r := rI)]
  cases hb1 : ((a_0.length : Int) != (a_1.length : Int))
  · replace h := ifF h ((fun h => not_not_intro (bneF h)) hb1)
    conv => lhs; whnf
    obtain ⟨hl_i7, h⟩ := grd_inv h
    refine loop_for hlp (l := a_0) hl_i7 (fun (i7 : Nat) (_ : Unit) => ([.d (.arr (a_0.map rI)), .d (.arr (a_1.map rI)), .dead, .dead, .dead, IN (i7 : Int)] ++ List.replicate 20 .dead : List V)) (fun (i7 : Nat) (_ : Unit) => ([] : Fo)) (fun (r : Bool) => ((BO r : V), ([] : Fo))) ?_ ?_ () _ (fun kk => by kernel_rfl) h
    · clear h
      rintro next_nx8 nx8 i7 hi_i7 hnx8 ⟨⟩ r h
      try dsimp only at h
      have hn_i7 : i7 < 4611686018427387904 := by omega
      have hx_x9 := get_map rI a_0 i7 hi_i7
      generalize a_0[i7] = x9 at h hx_x9
      have hd_i7 : (decide ((i7 : Int) < (a_0.length : Int))) = true := decide_eq_true (by omega)
      conv => lhs; whnf
      try rw [len_of (l := a_0) (r := rI)]
      rw [hd_i7]
      conv => lhs; whnf
      try (rw [decide_eq_true hq_x9]; conv => lhs; whnf)
      rw [hx_x9]
      conv => lhs; whnf
      rw [hx_x9]
      conv => lhs; whnf
      obtain ⟨x10, hq_x10, hx_x10', h⟩ := getK_inv h
      have hx_x10 := get_of (r := rI) hx_x10'
      try (rw [decide_eq_true hq_x10]; conv => lhs; whnf)
      rw [hx_x10]
      conv => lhs; whnf
      rw [hx_x10]
      conv => lhs; whnf
      cases hb11 : (x9 != x10)
      · replace h := ifF h ((fun h => not_not_intro (bneF h)) hb11)
        conv => lhs; whnf
        rw [wrap_nat i7 (by have := hn_i7; omega)]
        exact hnx8 _ _ _ _ (fun kk => by kernel_rfl) h
      · replace h := ifT h (bneT hb11)
        conv => lhs; whnf
        obtain rfl := Option.some.inj h
        show _ = _
        kernel_rfl
    · clear h
      rintro next_nx8 ⟨⟩ r h
      try dsimp only at h
      have hd_i7 : (decide ((a_0.length : Int) < (a_0.length : Int))) = false := decide_eq_false (by omega)
      conv => lhs; whnf
      try rw [len_of (l := a_0) (r := rI)]
      rw [hd_i7]
      conv => lhs; whnf
      obtain rfl := Option.some.inj h
      show _ = _
      kernel_rfl
  · replace h := ifT h (bneT hb1)
    conv => lhs; whnf
    obtain rfl := Option.some.inj h
    show _ = _
    kernel_rfl

noncomputable def p_spec_SameMap (a_0 : PageMap) (a_1 : PageMap) : Option Bool :=
  if ¬ a_0.Blocks = a_1.Blocks then
    some false
  else
    if ¬ a_0.Pages = a_1.Pages then
      some false
    else
      callK (p_spec_l00Same a_0.Map a_1.Map) fun y3 =>
      if y3 = true then
        if ¬ (a_0.Trimmed.length : Int) = (a_1.Trimmed.length : Int) then
          some false
        else
          grd (a_0.Trimmed.length < 4611686018427387904) <|
          forK a_0.Trimmed (fun (i11 : Nat) x13 (_ : Unit) (nx12 : Unit → Option _) =>
            getK a_1.Trimmed (i11 : Int) fun x14 =>
            if (x13 == x14) = true then
              nx12 ()
            else
              some false) () (fun (_ : Unit) =>
            some true)
      else
        some false

set_option maxHeartbeats 4000000 in
theorem L_spec_SameMap (a_0 : PageMap) (a_1 : PageMap) {r : Bool} (h : p_spec_SameMap a_0 a_1 = some r) : callL E 39 [.agg [IN a_0.Blocks, IN a_0.Pages, .d (.arr (a_0.Map.map rI)), .d (.arr (a_0.Trimmed.map rB))], .agg [IN a_1.Blocks, IN a_1.Pages, .d (.arr (a_1.Map.map rI)), .d (.arr (a_1.Trimmed.map rB))]] ([] : Fo) = some (BO r, ([] : Fo)) := by
  unfold p_spec_SameMap at h
  refine callW (fu := Try.f39) rfl rfl rfl NN ?_
  intro lp cl hlp hcl
  conv => lhs; whnf
  cases hb1 : (a_0.Blocks != a_1.Blocks)
  · replace h := ifF h ((fun h => not_not_intro (bneF h)) hb1)
    conv => lhs; whnf
    try (rw [hb1]; conv => lhs; whnf)
    try (rw [hb1]; conv => lhs; whnf)
    try (rw [hb1]; conv => lhs; whnf)
    try (rw [hb1]; conv => lhs; whnf)
    try (rw [hb1]; conv => lhs; whnf)
    cases hb2 : (a_0.Pages != a_1.Pages)
    · replace h := ifF h ((fun h => not_not_intro (bneF h)) hb2)
      conv => lhs; whnf
      try (rw [hb2]; conv => lhs; whnf)
      try (rw [hb2]; conv => lhs; whnf)
      try (rw [hb2]; conv => lhs; whnf)
      try (rw [hb2]; conv => lhs; whnf)
      obtain ⟨y3, h_y3, h⟩ := callK_inv h
      rw [cl_eq hcl (L_spec_l00Same a_0.Map a_1.Map h_y3)]
      rotate_left
      · show _ = _
        kernel_rfl
      · show _ = _
        kernel_rfl
      conv => lhs; whnf
      try (rw [hb2]; conv => lhs; whnf)
      try (rw [hb2]; conv => lhs; whnf)
      cases hb4 : y3
      · replace h := ifF h (booF hb4)
        conv => lhs; whnf
        try (rw [hb4]; conv => lhs; whnf)
        try (rw [hb4]; conv => lhs; whnf)
        try (rw [hb4]; conv => lhs; whnf)
        try (rw [hb4]; conv => lhs; whnf)
        try (rw [hb4]; conv => lhs; whnf)
        try (rw [hb4]; conv => lhs; whnf)
        try (rw [hb4]; conv => lhs; whnf)
        obtain rfl := Option.some.inj h
        show _ = _
        kernel_rfl
      · replace h := ifT h hb4
        conv => lhs; whnf
        try (rw [hb4]; conv => lhs; whnf)
        try (rw [hb4]; conv => lhs; whnf)
        try rw [len_of (l := a_0.Trimmed) (r := rB)]
        try (rw [hb4]; conv => lhs; whnf)
        try (rw [hb4]; conv => lhs; whnf)
        try (rw [hb4]; conv => lhs; whnf)
        try rw [len_of (l := a_1.Trimmed) (r := rB)]
        try (rw [hb4]; conv => lhs; whnf)
        try (rw [hb4]; conv => lhs; whnf)
        cases hb5 : ((a_0.Trimmed.length : Int) != (a_1.Trimmed.length : Int))
        · replace h := ifF h ((fun h => not_not_intro (bneF h)) hb5)
          conv => lhs; whnf
          obtain ⟨hl_i11, h⟩ := grd_inv h
          refine loop_for hlp (l := a_0.Trimmed) hl_i11 (fun (i11 : Nat) (_ : Unit) => ([.dead, .dead, .bp 0 0, .bp 1 0, .dead, IN (i11 : Int)] ++ List.replicate 47 .dead : List V)) (fun (i11 : Nat) (_ : Unit) => ([some (.box [IN a_0.Blocks, IN a_0.Pages, .d (.arr (a_0.Map.map rI)), .d (.arr (a_0.Trimmed.map rB))]), some (.box [IN a_1.Blocks, IN a_1.Pages, .d (.arr (a_1.Map.map rI)), .d (.arr (a_1.Trimmed.map rB))])] : Fo)) (fun (r : Bool) => ((BO r : V), ([] : Fo))) ?_ ?_ () _ (fun kk => by kernel_rfl) h
          · clear h
            rintro next_nx12 nx12 i11 hi_i11 hnx12 ⟨⟩ r h
            try dsimp only at h
            have hn_i11 : i11 < 4611686018427387904 := by omega
            have hx_x13 := get_map rB a_0.Trimmed i11 hi_i11
            generalize a_0.Trimmed[i11] = x13 at h hx_x13
            have hd_i11 : (decide ((i11 : Int) < (a_0.Trimmed.length : Int))) = true := decide_eq_true (by omega)
            conv => lhs; whnf
            try rw [len_of (l := a_0.Trimmed) (r := rB)]
            rw [hd_i11]
            conv => lhs; whnf
            try (rw [decide_eq_true hq_x13]; conv => lhs; whnf)
            rw [hx_x13]
            conv => lhs; whnf
            rw [hx_x13]
            conv => lhs; whnf
            obtain ⟨x14, hq_x14, hx_x14', h⟩ := getK_inv h
            have hx_x14 := get_of (r := rB) hx_x14'
            try (rw [decide_eq_true hq_x14]; conv => lhs; whnf)
            rw [hx_x14]
            conv => lhs; whnf
            rw [hx_x14]
            conv => lhs; whnf
            cases hb15 : (x13 == x14)
            · replace h := ifF h (booF hb15)
              conv => lhs; whnf
              obtain rfl := Option.some.inj h
              show _ = _
              kernel_rfl
            · replace h := ifT h hb15
              conv => lhs; whnf
              rw [wrap_nat i11 (by have := hn_i11; omega)]
              exact hnx12 _ _ _ _ (fun kk => by kernel_rfl) h
          · clear h
            rintro next_nx12 ⟨⟩ r h
            try dsimp only at h
            have hd_i11 : (decide ((a_0.Trimmed.length : Int) < (a_0.Trimmed.length : Int))) = false := decide_eq_false (by omega)
            conv => lhs; whnf
            try rw [len_of (l := a_0.Trimmed) (r := rB)]
            rw [hd_i11]
            conv => lhs; whnf
            obtain rfl := Option.some.inj h
            show _ = _
            kernel_rfl
        · replace h := ifT h (bneT hb5)
          conv => lhs; whnf
          obtain rfl := Option.some.inj h
          show _ = _
          kernel_rfl
    · replace h := ifT h (bneT hb2)
      conv => lhs; whnf
      try (rw [hb2]; conv => lhs; whnf)
      try (rw [hb2]; conv => lhs; whnf)
      try (rw [hb2]; conv => lhs; whnf)
      try (rw [hb2]; conv => lhs; whnf)
      try (rw [hb2]; conv => lhs; whnf)
      try (rw [hb2]; conv => lhs; whnf)
      obtain rfl := Option.some.inj h
      show _ = _
      kernel_rfl
  · replace h := ifT h (bneT hb1)
    conv => lhs; whnf
    try (rw [hb1]; conv => lhs; whnf)
    try (rw [hb1]; conv => lhs; whnf)
    try (rw [hb1]; conv => lhs; whnf)
    try (rw [hb1]; conv => lhs; whnf)
    try (rw [hb1]; conv => lhs; whnf)
    obtain rfl := Option.some.inj h
    show _ = _
    kernel_rfl

noncomputable def p_impl_PageMap_at (a_0 : PageMap) (a_1 : Int) : Option Int :=
  if a_1 < 0 then
    some (-1)
  else
    callK (p_slices_Index a_0.Map a_1) fun y2 =>
    some y2

set_option maxHeartbeats 4000000 in
theorem L_impl_PageMap_at (a_0 : PageMap) (a_1 : Int) {r : Int} (h : p_impl_PageMap_at a_0 a_1 = some r) : callL E 138 [.agg [IN a_0.Blocks, IN a_0.Pages, .d (.arr (a_0.Map.map rI)), .d (.arr (a_0.Trimmed.map rB))], IN a_1] ([] : Fo) = some (IN r, ([] : Fo)) := by
  unfold p_impl_PageMap_at at h
  refine callW (fu := Try.f138) rfl rfl rfl NN ?_
  intro lp cl hlp hcl
  conv => lhs; whnf
  cases hb1 : (decide (a_1 < 0))
  · replace h := ifF h (decF hb1)
    conv => lhs; whnf
    obtain ⟨y2, h_y2, h⟩ := callK_inv h
    rw [cl_eq hcl (L_slices_Index a_0.Map a_1 h_y2)]
    rotate_left
    · show _ = _
      kernel_rfl
    · show _ = _
      kernel_rfl
    conv => lhs; whnf
    obtain rfl := Option.some.inj h
    show _ = _
    kernel_rfl
  · replace h := ifT h (decT hb1)
    conv => lhs; whnf
    obtain rfl := Option.some.inj h
    show _ = _
    kernel_rfl

noncomputable def p_impl_LogicalAt (a_0 : PageMap) (a_1 : Int) : Option (Int × Bool) :=
  callK (p_impl_ValidMap a_0) fun y1 =>
  if y1 = true then
    callK (p_impl_PageMap_at a_0 a_1) fun y3 =>
    if y3 < 0 then
      some (0, false)
    else
      callK (p_impl_PageMap_at a_0 a_1) fun y5 =>
      some (y5, true)
  else
    some (0, false)

set_option maxHeartbeats 4000000 in
theorem L_impl_LogicalAt (a_0 : PageMap) (a_1 : Int) {r : (Int × Bool)} (h : p_impl_LogicalAt a_0 a_1 = some r) : callL E 40 [.agg [IN a_0.Blocks, IN a_0.Pages, .d (.arr (a_0.Map.map rI)), .d (.arr (a_0.Trimmed.map rB))], IN a_1] ([] : Fo) = some (.tup [IN r.1, BO r.2], ([] : Fo)) := by
  unfold p_impl_LogicalAt at h
  refine callW (fu := Try.f40) rfl rfl rfl NN ?_
  intro lp cl hlp hcl
  conv => lhs; whnf
  obtain ⟨y1, h_y1, h⟩ := callK_inv h
  rw [cl_eq hcl (L_impl_ValidMap a_0 h_y1)]
  rotate_left
  · show _ = _
    kernel_rfl
  · show _ = _
    kernel_rfl
  conv => lhs; whnf
  cases hb2 : y1
  · replace h := ifF h (booF hb2)
    conv => lhs; whnf
    try (rw [hb2]; conv => lhs; whnf)
    try (rw [hb2]; conv => lhs; whnf)
    try (rw [hb2]; conv => lhs; whnf)
    try (rw [hb2]; conv => lhs; whnf)
    obtain rfl := Option.some.inj h
    show _ = _
    kernel_rfl
  · replace h := ifT h hb2
    conv => lhs; whnf
    try (rw [hb2]; conv => lhs; whnf)
    try (rw [hb2]; conv => lhs; whnf)
    obtain ⟨y3, h_y3, h⟩ := callK_inv h
    rw [cl_eq hcl (L_impl_PageMap_at a_0 a_1 h_y3)]
    rotate_left
    · show _ = _
      kernel_rfl
    · show _ = _
      kernel_rfl
    conv => lhs; whnf
    try (rw [hb2]; conv => lhs; whnf)
    try (rw [hb2]; conv => lhs; whnf)
    cases hb4 : (decide (y3 < 0))
    · replace h := ifF h (decF hb4)
      conv => lhs; whnf
      obtain ⟨y5, h_y5, h⟩ := callK_inv h
      rw [cl_eq hcl (L_impl_PageMap_at a_0 a_1 h_y5)]
      rotate_left
      · show _ = _
        kernel_rfl
      · show _ = _
        kernel_rfl
      conv => lhs; whnf
      obtain rfl := Option.some.inj h
      show _ = _
      kernel_rfl
    · replace h := ifT h (decT hb4)
      conv => lhs; whnf
      obtain rfl := Option.some.inj h
      show _ = _
      kernel_rfl

noncomputable def p_impl_PageMap_phys (a_0 : PageMap) (a_1 : Int) : Option (Int × Bool) :=
  callK (p_impl_isIndex a_1 (a_0.Map.length : Int)) fun y1 =>
  if y1 = true then
    getK a_0.Map a_1 fun x3 =>
    if x3 < 0 then
      some (0, false)
    else
      getK a_0.Trimmed a_1 fun x5 =>
      if x5 = true then
        some (0, false)
      else
        some (x3, true)
  else
    some (0, false)

set_option maxHeartbeats 4000000 in
theorem L_impl_PageMap_phys (a_0 : PageMap) (a_1 : Int) {r : (Int × Bool)} (h : p_impl_PageMap_phys a_0 a_1 = some r) : callL E 139 [.agg [IN a_0.Blocks, IN a_0.Pages, .d (.arr (a_0.Map.map rI)), .d (.arr (a_0.Trimmed.map rB))], IN a_1] ([] : Fo) = some (.tup [IN r.1, BO r.2], ([] : Fo)) := by
  unfold p_impl_PageMap_phys at h
  refine callW (fu := Try.f139) rfl rfl rfl NN ?_
  intro lp cl hlp hcl
  conv => lhs; whnf
  try rw [len_of (l := a_0.Map) (r := rI)]
  obtain ⟨y1, h_y1, h⟩ := callK_inv h
  rw [cl_eq hcl (L_impl_isIndex a_1 (a_0.Map.length : Int) h_y1)]
  rotate_left
  · show _ = _
    kernel_rfl
  · show _ = _
    kernel_rfl
  conv => lhs; whnf
  cases hb2 : y1
  · replace h := ifF h (booF hb2)
    conv => lhs; whnf
    try (rw [hb2]; conv => lhs; whnf)
    try (rw [hb2]; conv => lhs; whnf)
    try (rw [hb2]; conv => lhs; whnf)
    try (rw [hb2]; conv => lhs; whnf)
    try (rw [hb2]; conv => lhs; whnf)
    try (rw [hb2]; conv => lhs; whnf)
    obtain rfl := Option.some.inj h
    show _ = _
    kernel_rfl
  · replace h := ifT h hb2
    conv => lhs; whnf
    try (rw [hb2]; conv => lhs; whnf)
    try (rw [hb2]; conv => lhs; whnf)
    try (rw [hb2]; conv => lhs; whnf)
    obtain ⟨x3, hq_x3, hx_x3', h⟩ := getK_inv h
    have hx_x3 := get_of (r := rI) hx_x3'
    try (rw [decide_eq_true hq_x3]; conv => lhs; whnf)
    rw [hx_x3]
    conv => lhs; whnf
    try (rw [hb2]; conv => lhs; whnf)
    rw [hx_x3]
    conv => lhs; whnf
    try (rw [hb2]; conv => lhs; whnf)
    try (rw [hb2]; conv => lhs; whnf)
    cases hb4 : (decide (x3 < 0))
    · replace h := ifF h (decF hb4)
      conv => lhs; whnf
      try (rw [hb4]; conv => lhs; whnf)
      try (rw [hb4]; conv => lhs; whnf)
      try (rw [hb4]; conv => lhs; whnf)
      obtain ⟨x5, hq_x5, hx_x5', h⟩ := getK_inv h
      have hx_x5 := get_of (r := rB) hx_x5'
      try (rw [decide_eq_true hq_x5]; conv => lhs; whnf)
      rw [hx_x5]
      conv => lhs; whnf
      try (rw [hb4]; conv => lhs; whnf)
      rw [hx_x5]
      conv => lhs; whnf
      try (rw [hb4]; conv => lhs; whnf)
      cases hb6 : x5
      · replace h := ifF h (booF hb6)
        conv => lhs; whnf
        try (rw [decide_eq_true hq_x3]; conv => lhs; whnf)
        rw [hx_x3]
        conv => lhs; whnf
        rw [hx_x3]
        conv => lhs; whnf
        obtain rfl := Option.some.inj h
        show _ = _
        kernel_rfl
      · replace h := ifT h hb6
        conv => lhs; whnf
        obtain rfl := Option.some.inj h
        show _ = _
        kernel_rfl
    · replace h := ifT h (decT hb4)
      conv => lhs; whnf
      try (rw [hb4]; conv => lhs; whnf)
      try (rw [hb4]; conv => lhs; whnf)
      try (rw [hb4]; conv => lhs; whnf)
      try (rw [hb4]; conv => lhs; whnf)
      try (rw [hb4]; conv => lhs; whnf)
      obtain rfl := Option.some.inj h
      show _ = _
      kernel_rfl

noncomputable def p_impl_PhysOf (a_0 : PageMap) (a_1 : Int) : Option (Int × Bool) :=
  callK (p_impl_ValidMap a_0) fun y1 =>
  if y1 = true then
    callK (p_impl_PageMap_phys a_0 a_1) fun y3 =>
    some (y3.1, y3.2)
  else
    some (0, false)

set_option maxHeartbeats 4000000 in
theorem L_impl_PhysOf (a_0 : PageMap) (a_1 : Int) {r : (Int × Bool)} (h : p_impl_PhysOf a_0 a_1 = some r) : callL E 41 [.agg [IN a_0.Blocks, IN a_0.Pages, .d (.arr (a_0.Map.map rI)), .d (.arr (a_0.Trimmed.map rB))], IN a_1] ([] : Fo) = some (.tup [IN r.1, BO r.2], ([] : Fo)) := by
  unfold p_impl_PhysOf at h
  refine callW (fu := Try.f41) rfl rfl rfl NN ?_
  intro lp cl hlp hcl
  conv => lhs; whnf
  obtain ⟨y1, h_y1, h⟩ := callK_inv h
  rw [cl_eq hcl (L_impl_ValidMap a_0 h_y1)]
  rotate_left
  · show _ = _
    kernel_rfl
  · show _ = _
    kernel_rfl
  conv => lhs; whnf
  cases hb2 : y1
  · replace h := ifF h (booF hb2)
    conv => lhs; whnf
    obtain rfl := Option.some.inj h
    show _ = _
    kernel_rfl
  · replace h := ifT h hb2
    conv => lhs; whnf
    obtain ⟨y3, h_y3, h⟩ := callK_inv h
    rw [cl_eq hcl (L_impl_PageMap_phys a_0 a_1 h_y3)]
    rotate_left
    · show _ = _
      kernel_rfl
    · show _ = _
      kernel_rfl
    conv => lhs; whnf
    obtain rfl := Option.some.inj h
    show _ = _
    kernel_rfl

noncomputable def p_impl_PageMap_live (a_0 : PageMap) (a_1 : Int) : Option (List Int) :=
  iterK (fun ((v1, v2) : (Int × (List Int))) (nx3 : (Int × (List Int)) → Option _) =>
    if v1 < (IntKind.i64.wrap ((IntKind.i64.wrap (a_1 + 1)) * a_0.Pages)) then
      callK (p_impl_PageMap_at a_0 v1) fun y5 =>
      if y5 ≥ 0 then
        grd (appOk (v2.length + 1) 8 = true) <|
        nx3 ((IntKind.i64.wrap (v1 + 1)), (v2 ++ ([y5] : List Int)))
      else
        nx3 ((IntKind.i64.wrap (v1 + 1)), v2)
    else
      some v2) NN ((IntKind.i64.wrap (a_1 * a_0.Pages)), ([] : List Int))

set_option maxHeartbeats 4000000 in
theorem L_impl_PageMap_live (a_0 : PageMap) (a_1 : Int) {r : (List Int)} (h : p_impl_PageMap_live a_0 a_1 = some r) : callL E 140 [.agg [IN a_0.Blocks, IN a_0.Pages, .d (.arr (a_0.Map.map rI)), .d (.arr (a_0.Trimmed.map rB))], IN a_1] ([] : Fo) = some (.d (.arr (r.map rI)), ([] : Fo)) := by
  unfold p_impl_PageMap_live at h
  refine callW (fu := Try.f140) rfl rfl rfl NN ?_
  intro lp cl hlp hcl
  conv => lhs; whnf
  refine loop_iter hlp (fun ((v1, v2) : (Int × (List Int))) => ([.dead, IN a_1, .bp 0 0, .dead, .dead, .sl 1, IN v1] ++ List.replicate 24 .dead : List V)) (fun ((v1, v2) : (Int × (List Int))) => ([some (.box [IN a_0.Blocks, IN a_0.Pages, .d (.arr (a_0.Map.map rI)), .d (.arr (a_0.Trimmed.map rB))]), some (.arr 2 1 (v2.map rI))] : Fo)) (fun (r : (List Int)) => ((.d (.arr (r.map rI)) : V), ([] : Fo))) ?_ ((IntKind.i64.wrap (a_1 * a_0.Pages)), ([] : List Int)) _ (fun kk => by kernel_rfl) h
  clear h
  rintro next_nx3 nx3 hnx3 ⟨v1, v2⟩ r h
  try dsimp only at h
  conv => lhs; whnf
  cases hb4 : (decide (v1 < (IntKind.i64.wrap ((IntKind.i64.wrap (a_1 + 1)) * a_0.Pages))))
  · replace h := ifF h (decF hb4)
    conv => lhs; whnf
    obtain rfl := Option.some.inj h
    show _ = _
    kernel_rfl
  · replace h := ifT h (decT hb4)
    conv => lhs; whnf
    obtain ⟨y5, h_y5, h⟩ := callK_inv h
    rw [cl_eq hcl (L_impl_PageMap_at a_0 v1 h_y5)]
    rotate_left
    · show _ = _
      kernel_rfl
    · show _ = _
      kernel_rfl
    conv => lhs; whnf
    cases hb6 : (decide (y5 ≥ 0))
    · replace h := ifF h (decF hb6)
      conv => lhs; whnf
      exact hnx3 _ _ _ _ (fun kk => by kernel_rfl) h
    · replace h := ifT h (decT hb6)
      conv => lhs; whnf
      obtain ⟨hg7, h⟩ := grd_inv h
      rw [app_eq hg7 ?h1 ?h2]
      case h1 => first | exact rfl | (simp only [List.length_map, List.length_cons, List.length_nil]; done) | (rw [List.length_map]; rfl)
      case h2 => exact rfl
      conv => lhs; whnf
      first | (rw [map_app_of (r := rI) (l := v2) (m := ([y5] : List Int)) ?hh]; case hh => exact rfl) | skip
      exact hnx3 _ _ _ _ (fun kk => by kernel_rfl) h

noncomputable def p_impl_LiveIn (a_0 : PageMap) (a_1 : Int) : Option (List Int) :=
  callK (p_impl_ValidMap a_0) fun y1 =>
  if y1 = true then
    if (inR a_1 0 (IntKind.i64.wrap (a_0.Blocks - 1))) = true then
      callK (p_impl_PageMap_live a_0 a_1) fun y4 =>
      some y4
    else
      some ([] : List Int)
  else
    some ([] : List Int)

set_option maxHeartbeats 4000000 in
theorem L_impl_LiveIn (a_0 : PageMap) (a_1 : Int) {r : (List Int)} (h : p_impl_LiveIn a_0 a_1 = some r) : callL E 43 [.agg [IN a_0.Blocks, IN a_0.Pages, .d (.arr (a_0.Map.map rI)), .d (.arr (a_0.Trimmed.map rB))], IN a_1] ([] : Fo) = some (.d (.arr (r.map rI)), ([] : Fo)) := by
  unfold p_impl_LiveIn at h
  refine callW (fu := Try.f43) rfl rfl rfl NN ?_
  intro lp cl hlp hcl
  conv => lhs; whnf
  obtain ⟨y1, h_y1, h⟩ := callK_inv h
  rw [cl_eq hcl (L_impl_ValidMap a_0 h_y1)]
  rotate_left
  · show _ = _
    kernel_rfl
  · show _ = _
    kernel_rfl
  conv => lhs; whnf
  cases hb2 : y1
  · replace h := ifF h (booF hb2)
    conv => lhs; whnf
    try (rw [hb2]; conv => lhs; whnf)
    try (rw [hb2]; conv => lhs; whnf)
    try (rw [hb2]; conv => lhs; whnf)
    try (rw [hb2]; conv => lhs; whnf)
    try (rw [hb2]; conv => lhs; whnf)
    try (rw [hb2]; conv => lhs; whnf)
    obtain rfl := Option.some.inj h
    show _ = _
    kernel_rfl
  · replace h := ifT h hb2
    conv => lhs; whnf
    try (rw [hb2]; conv => lhs; whnf)
    try (rw [hb2]; conv => lhs; whnf)
    try (rw [hb2]; conv => lhs; whnf)
    try (rw [hb2]; conv => lhs; whnf)
    rw [cl_eq hcl (L_impl_within a_1 0 (IntKind.i64.wrap (a_0.Blocks - 1)) (pl_within a_1 0 (IntKind.i64.wrap (a_0.Blocks - 1))))]
    rotate_left
    · show _ = _
      kernel_rfl
    · show _ = _
      kernel_rfl
    conv => lhs; whnf
    try (rw [hb2]; conv => lhs; whnf)
    try (rw [hb2]; conv => lhs; whnf)
    cases hb3 : (inR a_1 0 (IntKind.i64.wrap (a_0.Blocks - 1)))
    · replace h := ifF h (booF hb3)
      conv => lhs; whnf
      obtain rfl := Option.some.inj h
      show _ = _
      kernel_rfl
    · replace h := ifT h hb3
      conv => lhs; whnf
      obtain ⟨y4, h_y4, h⟩ := callK_inv h
      rw [cl_eq hcl (L_impl_PageMap_live a_0 a_1 h_y4)]
      rotate_left
      · show _ = _
        kernel_rfl
      · show _ = _
        kernel_rfl
      conv => lhs; whnf
      obtain rfl := Option.some.inj h
      show _ = _
      kernel_rfl

noncomputable def p_impl_LivePages (a_0 : PageMap) (a_1 : Int) : Option Int :=
  callK (p_impl_LiveIn a_0 a_1) fun y1 =>
  some (y1.length : Int)

set_option maxHeartbeats 4000000 in
theorem L_impl_LivePages (a_0 : PageMap) (a_1 : Int) {r : Int} (h : p_impl_LivePages a_0 a_1 = some r) : callL E 42 [.agg [IN a_0.Blocks, IN a_0.Pages, .d (.arr (a_0.Map.map rI)), .d (.arr (a_0.Trimmed.map rB))], IN a_1] ([] : Fo) = some (IN r, ([] : Fo)) := by
  unfold p_impl_LivePages at h
  refine callW (fu := Try.f42) rfl rfl rfl NN ?_
  intro lp cl hlp hcl
  conv => lhs; whnf
  obtain ⟨y1, h_y1, h⟩ := callK_inv h
  rw [cl_eq hcl (L_impl_LiveIn a_0 a_1 h_y1)]
  rotate_left
  · show _ = _
    kernel_rfl
  · show _ = _
    kernel_rfl
  conv => lhs; whnf
  try rw [len_of (l := y1) (r := rI)]
  obtain rfl := Option.some.inj h
  show _ = _
  kernel_rfl

noncomputable def p_spec_ValidMap (a_0 : PageMap) : Option Bool :=
  callK (p_spec_l09Ok a_0) fun y1 =>
  some y1

set_option maxHeartbeats 4000000 in
theorem L_spec_ValidMap (a_0 : PageMap) {r : Bool} (h : p_spec_ValidMap a_0 = some r) : callL E 44 [.agg [IN a_0.Blocks, IN a_0.Pages, .d (.arr (a_0.Map.map rI)), .d (.arr (a_0.Trimmed.map rB))]] ([] : Fo) = some (BO r, ([] : Fo)) := by
  unfold p_spec_ValidMap at h
  refine callW (fu := Try.f44) rfl rfl rfl NN ?_
  intro lp cl hlp hcl
  conv => lhs; whnf
  obtain ⟨y1, h_y1, h⟩ := callK_inv h
  rw [cl_eq hcl (L_spec_l09Ok a_0 h_y1)]
  rotate_left
  · show _ = _
    kernel_rfl
  · show _ = _
    kernel_rfl
  conv => lhs; whnf
  obtain rfl := Option.some.inj h
  show _ = _
  kernel_rfl

noncomputable def p_laws_FnFtlMap (a_0 : List Int) : Option Bool :=
  callK (p_laws_c2Big a_0 ([] : List Int)) fun y1 =>
  if y1 = true then
    some true
  else
    callK (p_spec_DrawSetPage a_0) fun y3 =>
    callK (p_impl_SetPage y3.1 y3.2.1 y3.2.2.1 y3.2.2.2) fun y4 =>
    callK (p_spec_SetPage y3.1 y3.2.1 y3.2.2.1 y3.2.2.2) fun y5 =>
    if ¬ y4.2 = y5.2 then
      some false
    else
      callK (p_spec_SameMap y4.1 y5.1) fun y7 =>
      if y7 = true then
        if ¬ y4.2 = 0 then
          some true
        else
          callK (p_impl_LogicalAt y4.1 y3.2.2.1) fun y10 =>
          callK (p_impl_PhysOf y4.1 y3.2.1) fun y11 =>
          if y10.2 = true then
            if ¬ y10.1 = y3.2.1 then
              some false
            else
              if (y11.2 == y3.2.2.2) = true then
                some false
              else
                if y11.2 = true then
                  if ¬ y11.1 = y3.2.2.1 then
                    some false
                  else
                    grd (y4.1.Blocks < 4611686018427387904) <|
                    forI y4.1.Blocks (fun (i23 : Nat) (v24 : Int) (nx25 : Int → Option _) =>
                      callK (p_impl_LivePages y4.1 (i23 : Int)) fun y26 =>
                      callK (p_impl_LiveIn y4.1 (i23 : Int)) fun y27 =>
                      if ¬ y26 = (y27.length : Int) then
                        some false
                      else
                        nx25 (IntKind.i64.wrap (v24 + y26))) 0 (fun (v24 : Int) =>
                      grd (y4.1.Map.length < 4611686018427387904) <|
                      forK y4.1.Map (fun (i34 : Nat) x37 (v35 : Int) (nx36 : Int → Option _) =>
                        if x37 ≥ 0 then
                          nx36 (IntKind.i64.wrap (v35 + 1))
                        else
                          nx36 v35) 0 (fun (v35 : Int) =>
                        if v24 = v35 then
                          callK (p_spec_ValidMap y4.1) fun y40 =>
                          some y40
                        else
                          some false))
                else
                  grd (y4.1.Blocks < 4611686018427387904) <|
                  forI y4.1.Blocks (fun (i47 : Nat) (v48 : Int) (nx49 : Int → Option _) =>
                    callK (p_impl_LivePages y4.1 (i47 : Int)) fun y50 =>
                    callK (p_impl_LiveIn y4.1 (i47 : Int)) fun y51 =>
                    if ¬ y50 = (y51.length : Int) then
                      some false
                    else
                      nx49 (IntKind.i64.wrap (v48 + y50))) 0 (fun (v48 : Int) =>
                    grd (y4.1.Map.length < 4611686018427387904) <|
                    forK y4.1.Map (fun (i58 : Nat) x61 (v59 : Int) (nx60 : Int → Option _) =>
                      if x61 ≥ 0 then
                        nx60 (IntKind.i64.wrap (v59 + 1))
                      else
                        nx60 v59) 0 (fun (v59 : Int) =>
                      if v48 = v59 then
                        callK (p_spec_ValidMap y4.1) fun y64 =>
                        some y64
                      else
                        some false))
          else
            some false
      else
        some false

set_option maxHeartbeats 4000000 in
theorem L_laws_FnFtlMap (a_0 : List Int) {r : Bool} (h : p_laws_FnFtlMap a_0 = some r) : callL E 6 [.d (.arr (a_0.map rU))] ([] : Fo) = some (BO r, ([] : Fo)) := by
  unfold p_laws_FnFtlMap at h
  refine callW (fu := Try.f6) rfl rfl rfl NN ?_
  intro lp cl hlp hcl
  conv => lhs; whnf
  obtain ⟨y1, h_y1, h⟩ := callK_inv h
  rw [cl_eq hcl (L_laws_c2Big a_0 ([] : List Int) h_y1)]
  rotate_left
  · show _ = _
    kernel_rfl
  · show _ = _
    kernel_rfl
  conv => lhs; whnf
  cases hb2 : y1
  · replace h := ifF h (booF hb2)
    try rw [hb2] at h
    conv => lhs; whnf
    obtain ⟨y3, h_y3, h⟩ := callK_inv h
    rw [cl_eq hcl (L_spec_DrawSetPage a_0 h_y3)]
    rotate_left
    · show _ = _
      kernel_rfl
    · show _ = _
      kernel_rfl
    conv => lhs; whnf
    obtain ⟨y4, h_y4, h⟩ := callK_inv h
    rw [cl_eq hcl (L_impl_SetPage y3.1 y3.2.1 y3.2.2.1 y3.2.2.2 h_y4)]
    rotate_left
    · show _ = _
      kernel_rfl
    · show _ = _
      kernel_rfl
    conv => lhs; whnf
    obtain ⟨y5, h_y5, h⟩ := callK_inv h
    rw [cl_eq hcl (L_spec_SetPage y3.1 y3.2.1 y3.2.2.1 y3.2.2.2 h_y5)]
    rotate_left
    · show _ = _
      kernel_rfl
    · show _ = _
      kernel_rfl
    conv => lhs; whnf
    cases hb6 : (y4.2 != y5.2)
    · replace h := ifF h ((fun h => not_not_intro (bneF h)) hb6)
      conv => lhs; whnf
      try (rw [hb6]; conv => lhs; whnf)
      try (rw [hb6]; conv => lhs; whnf)
      obtain ⟨y7, h_y7, h⟩ := callK_inv h
      rw [cl_eq hcl (L_spec_SameMap y4.1 y5.1 h_y7)]
      rotate_left
      · show _ = _
        kernel_rfl
      · show _ = _
        kernel_rfl
      conv => lhs; whnf
      try (rw [hb6]; conv => lhs; whnf)
      try (rw [hb6]; conv => lhs; whnf)
      cases hb8 : y7
      · replace h := ifF h (booF hb8)
        conv => lhs; whnf
        obtain rfl := Option.some.inj h
        show _ = _
        kernel_rfl
      · replace h := ifT h hb8
        conv => lhs; whnf
        cases hb9 : (y4.2 != 0)
        · replace h := ifF h ((fun h => not_not_intro (bneF h)) hb9)
          conv => lhs; whnf
          obtain ⟨y10, h_y10, h⟩ := callK_inv h
          rw [cl_eq hcl (L_impl_LogicalAt y4.1 y3.2.2.1 h_y10)]
          rotate_left
          · show _ = _
            kernel_rfl
          · show _ = _
            kernel_rfl
          conv => lhs; whnf
          obtain ⟨y11, h_y11, h⟩ := callK_inv h
          rw [cl_eq hcl (L_impl_PhysOf y4.1 y3.2.1 h_y11)]
          rotate_left
          · show _ = _
            kernel_rfl
          · show _ = _
            kernel_rfl
          conv => lhs; whnf
          cases hb12 : y10.2
          · replace h := ifF h (booF hb12)
            conv => lhs; whnf
            try (rw [hb12]; conv => lhs; whnf)
            try (rw [hb12]; conv => lhs; whnf)
            try (rw [hb12]; conv => lhs; whnf)
            obtain rfl := Option.some.inj h
            show _ = _
            kernel_rfl
          · replace h := ifT h hb12
            conv => lhs; whnf
            try (rw [hb12]; conv => lhs; whnf)
            try (rw [hb12]; conv => lhs; whnf)
            try (rw [hb12]; conv => lhs; whnf)
            cases hb13 : (y10.1 != y3.2.1)
            · replace h := ifF h ((fun h => not_not_intro (bneF h)) hb13)
              conv => lhs; whnf
              try (rw [hb13]; conv => lhs; whnf)
              try (rw [hb13]; conv => lhs; whnf)
              try (rw [hb13]; conv => lhs; whnf)
              cases hb14 : (y11.2 == y3.2.2.2)
              · replace h := ifF h (booF hb14)
                conv => lhs; whnf
                try (rw [hb14]; conv => lhs; whnf)
                cases hb15 : y11.2
                · replace h := ifF h (booF hb15)
                  conv => lhs; whnf
                  try (rw [hb15]; conv => lhs; whnf)
                  try (rw [hb15]; conv => lhs; whnf)
                  try (rw [hb14]; conv => lhs; whnf)
                  try (rw [hb15]; conv => lhs; whnf)
                  try (rw [hb14]; conv => lhs; whnf)
                  obtain ⟨hl_i47, h⟩ := grd_inv h
                  refine loop_forI hlp (n := y4.1.Blocks) hl_i47 (fun (i47 : Nat) (v48 : Int) => ([.dead, .dead, .dead, .dead, .dead, .dead, .dead, .bp 0 0, .dead, .dead, .dead, .dead, .dead, .dead, .dead, IN v48, IN (i47 : Int)] ++ List.replicate 111 .dead : List V)) (fun (i47 : Nat) (v48 : Int) => ([some (.box [IN y4.1.Blocks, IN y4.1.Pages, .d (.arr (y4.1.Map.map rI)), .d (.arr (y4.1.Trimmed.map rB))])] : Fo)) (fun (r : Bool) => ((BO r : V), ([] : Fo))) ?_ ?_ 0 _ (fun kk => by kernel_rfl) h
                  · clear h
                    rintro next_nx49 nx49 i47 hi_i47 hnx49 v48 r h
                    try dsimp only at h
                    have hn_i47 : i47 < 4611686018427387904 := by omega
                    have hd_i47 : (decide ((i47 : Int) < y4.1.Blocks)) = true := decide_eq_true (by omega)
                    conv => lhs; whnf
                    rw [hd_i47]
                    conv => lhs; whnf
                    obtain ⟨y50, h_y50, h⟩ := callK_inv h
                    rw [cl_eq hcl (L_impl_LivePages y4.1 (i47 : Int) h_y50)]
                    rotate_left
                    · show _ = _
                      kernel_rfl
                    · show _ = _
                      kernel_rfl
                    conv => lhs; whnf
                    obtain ⟨y51, h_y51, h⟩ := callK_inv h
                    rw [cl_eq hcl (L_impl_LiveIn y4.1 (i47 : Int) h_y51)]
                    rotate_left
                    · show _ = _
                      kernel_rfl
                    · show _ = _
                      kernel_rfl
                    conv => lhs; whnf
                    try rw [len_of (l := y51) (r := rI)]
                    cases hb52 : (y50 != (y51.length : Int))
                    · replace h := ifF h ((fun h => not_not_intro (bneF h)) hb52)
                      conv => lhs; whnf
                      rw [wrap_nat i47 (by have := hn_i47; omega)]
                      exact hnx49 _ _ _ _ (fun kk => by kernel_rfl) h
                    · replace h := ifT h (bneT hb52)
                      conv => lhs; whnf
                      obtain rfl := Option.some.inj h
                      show _ = _
                      kernel_rfl
                  · clear h
                    rintro next_nx49 v48 r h
                    try dsimp only at h
                    have hd_i47 : (decide (((Int.toNat y4.1.Blocks) : Int) < y4.1.Blocks)) = false := decide_eq_false (by omega)
                    conv => lhs; whnf
                    rw [hd_i47]
                    conv => lhs; whnf
                    obtain ⟨hl_i58, h⟩ := grd_inv h
                    refine loop_for hlp (l := y4.1.Map) hl_i58 (fun (i58 : Nat) (v59 : Int) => ([.dead, .dead, .dead, .dead, .dead, .dead, .dead, .bp 0 0, .dead, .dead, .dead, .dead, .dead, .dead, .dead, IN v48, .dead, .dead, IN v59, IN (i58 : Int)] ++ List.replicate 108 .dead : List V)) (fun (i58 : Nat) (v59 : Int) => ([some (.box [IN y4.1.Blocks, IN y4.1.Pages, .d (.arr (y4.1.Map.map rI)), .d (.arr (y4.1.Trimmed.map rB))])] : Fo)) (fun (r : Bool) => ((BO r : V), ([] : Fo))) ?_ ?_ 0 _ (fun kk => by kernel_rfl) h
                    · clear h
                      rintro next_nx60 nx60 i58 hi_i58 hnx60 v59 r h
                      try dsimp only at h
                      have hn_i58 : i58 < 4611686018427387904 := by omega
                      have hx_x61 := get_map rI y4.1.Map i58 hi_i58
                      generalize y4.1.Map[i58] = x61 at h hx_x61
                      have hd_i58 : (decide ((i58 : Int) < (y4.1.Map.length : Int))) = true := decide_eq_true (by omega)
                      conv => lhs; whnf
                      try rw [len_of (l := y4.1.Map) (r := rI)]
                      rw [hd_i58]
                      conv => lhs; whnf
                      try (rw [decide_eq_true hq_x61]; conv => lhs; whnf)
                      rw [hx_x61]
                      conv => lhs; whnf
                      rw [hx_x61]
                      conv => lhs; whnf
                      cases hb62 : (decide (x61 ≥ 0))
                      · replace h := ifF h (decF hb62)
                        conv => lhs; whnf
                        rw [wrap_nat i58 (by have := hn_i58; omega)]
                        exact hnx60 _ _ _ _ (fun kk => by kernel_rfl) h
                      · replace h := ifT h (decT hb62)
                        conv => lhs; whnf
                        rw [wrap_nat i58 (by have := hn_i58; omega)]
                        exact hnx60 _ _ _ _ (fun kk => by kernel_rfl) h
                    · clear h
                      rintro next_nx60 v59 r h
                      try dsimp only at h
                      have hd_i58 : (decide ((y4.1.Map.length : Int) < (y4.1.Map.length : Int))) = false := decide_eq_false (by omega)
                      conv => lhs; whnf
                      try rw [len_of (l := y4.1.Map) (r := rI)]
                      rw [hd_i58]
                      conv => lhs; whnf
                      cases hb63 : (v48 == v59)
                      · replace h := ifF h (beqF hb63)
                        conv => lhs; whnf
                        try (rw [hb63]; conv => lhs; whnf)
                        try (rw [hb63]; conv => lhs; whnf)
                        obtain rfl := Option.some.inj h
                        show _ = _
                        kernel_rfl
                      · replace h := ifT h (beqT hb63)
                        conv => lhs; whnf
                        try (rw [hb63]; conv => lhs; whnf)
                        obtain ⟨y64, h_y64, h⟩ := callK_inv h
                        rw [cl_eq hcl (L_spec_ValidMap y4.1 h_y64)]
                        rotate_left
                        · show _ = _
                          kernel_rfl
                        · show _ = _
                          kernel_rfl
                        conv => lhs; whnf
                        try (rw [hb63]; conv => lhs; whnf)
                        obtain rfl := Option.some.inj h
                        show _ = _
                        kernel_rfl
                · replace h := ifT h hb15
                  conv => lhs; whnf
                  try (rw [hb15]; conv => lhs; whnf)
                  try (rw [hb15]; conv => lhs; whnf)
                  try (rw [hb14]; conv => lhs; whnf)
                  try (rw [hb15]; conv => lhs; whnf)
                  try (rw [hb14]; conv => lhs; whnf)
                  cases hb16 : (y11.1 != y3.2.2.1)
                  · replace h := ifF h ((fun h => not_not_intro (bneF h)) hb16)
                    conv => lhs; whnf
                    obtain ⟨hl_i23, h⟩ := grd_inv h
                    refine loop_forI hlp (n := y4.1.Blocks) hl_i23 (fun (i23 : Nat) (v24 : Int) => ([.dead, .dead, .dead, .dead, .dead, .dead, .dead, .bp 0 0, .dead, .dead, .dead, .dead, .dead, .dead, .dead, IN v24, IN (i23 : Int)] ++ List.replicate 111 .dead : List V)) (fun (i23 : Nat) (v24 : Int) => ([some (.box [IN y4.1.Blocks, IN y4.1.Pages, .d (.arr (y4.1.Map.map rI)), .d (.arr (y4.1.Trimmed.map rB))])] : Fo)) (fun (r : Bool) => ((BO r : V), ([] : Fo))) ?_ ?_ 0 _ (fun kk => by kernel_rfl) h
                    · clear h
                      rintro next_nx25 nx25 i23 hi_i23 hnx25 v24 r h
                      try dsimp only at h
                      have hn_i23 : i23 < 4611686018427387904 := by omega
                      have hd_i23 : (decide ((i23 : Int) < y4.1.Blocks)) = true := decide_eq_true (by omega)
                      conv => lhs; whnf
                      rw [hd_i23]
                      conv => lhs; whnf
                      obtain ⟨y26, h_y26, h⟩ := callK_inv h
                      rw [cl_eq hcl (L_impl_LivePages y4.1 (i23 : Int) h_y26)]
                      rotate_left
                      · show _ = _
                        kernel_rfl
                      · show _ = _
                        kernel_rfl
                      conv => lhs; whnf
                      obtain ⟨y27, h_y27, h⟩ := callK_inv h
                      rw [cl_eq hcl (L_impl_LiveIn y4.1 (i23 : Int) h_y27)]
                      rotate_left
                      · show _ = _
                        kernel_rfl
                      · show _ = _
                        kernel_rfl
                      conv => lhs; whnf
                      try rw [len_of (l := y27) (r := rI)]
                      cases hb28 : (y26 != (y27.length : Int))
                      · replace h := ifF h ((fun h => not_not_intro (bneF h)) hb28)
                        conv => lhs; whnf
                        rw [wrap_nat i23 (by have := hn_i23; omega)]
                        exact hnx25 _ _ _ _ (fun kk => by kernel_rfl) h
                      · replace h := ifT h (bneT hb28)
                        conv => lhs; whnf
                        obtain rfl := Option.some.inj h
                        show _ = _
                        kernel_rfl
                    · clear h
                      rintro next_nx25 v24 r h
                      try dsimp only at h
                      have hd_i23 : (decide (((Int.toNat y4.1.Blocks) : Int) < y4.1.Blocks)) = false := decide_eq_false (by omega)
                      conv => lhs; whnf
                      rw [hd_i23]
                      conv => lhs; whnf
                      obtain ⟨hl_i34, h⟩ := grd_inv h
                      refine loop_for hlp (l := y4.1.Map) hl_i34 (fun (i34 : Nat) (v35 : Int) => ([.dead, .dead, .dead, .dead, .dead, .dead, .dead, .bp 0 0, .dead, .dead, .dead, .dead, .dead, .dead, .dead, IN v24, .dead, .dead, IN v35, IN (i34 : Int)] ++ List.replicate 108 .dead : List V)) (fun (i34 : Nat) (v35 : Int) => ([some (.box [IN y4.1.Blocks, IN y4.1.Pages, .d (.arr (y4.1.Map.map rI)), .d (.arr (y4.1.Trimmed.map rB))])] : Fo)) (fun (r : Bool) => ((BO r : V), ([] : Fo))) ?_ ?_ 0 _ (fun kk => by kernel_rfl) h
                      · clear h
                        rintro next_nx36 nx36 i34 hi_i34 hnx36 v35 r h
                        try dsimp only at h
                        have hn_i34 : i34 < 4611686018427387904 := by omega
                        have hx_x37 := get_map rI y4.1.Map i34 hi_i34
                        generalize y4.1.Map[i34] = x37 at h hx_x37
                        have hd_i34 : (decide ((i34 : Int) < (y4.1.Map.length : Int))) = true := decide_eq_true (by omega)
                        conv => lhs; whnf
                        try rw [len_of (l := y4.1.Map) (r := rI)]
                        rw [hd_i34]
                        conv => lhs; whnf
                        try (rw [decide_eq_true hq_x37]; conv => lhs; whnf)
                        rw [hx_x37]
                        conv => lhs; whnf
                        rw [hx_x37]
                        conv => lhs; whnf
                        cases hb38 : (decide (x37 ≥ 0))
                        · replace h := ifF h (decF hb38)
                          conv => lhs; whnf
                          rw [wrap_nat i34 (by have := hn_i34; omega)]
                          exact hnx36 _ _ _ _ (fun kk => by kernel_rfl) h
                        · replace h := ifT h (decT hb38)
                          conv => lhs; whnf
                          rw [wrap_nat i34 (by have := hn_i34; omega)]
                          exact hnx36 _ _ _ _ (fun kk => by kernel_rfl) h
                      · clear h
                        rintro next_nx36 v35 r h
                        try dsimp only at h
                        have hd_i34 : (decide ((y4.1.Map.length : Int) < (y4.1.Map.length : Int))) = false := decide_eq_false (by omega)
                        conv => lhs; whnf
                        try rw [len_of (l := y4.1.Map) (r := rI)]
                        rw [hd_i34]
                        conv => lhs; whnf
                        cases hb39 : (v24 == v35)
                        · replace h := ifF h (beqF hb39)
                          conv => lhs; whnf
                          try (rw [hb39]; conv => lhs; whnf)
                          try (rw [hb39]; conv => lhs; whnf)
                          obtain rfl := Option.some.inj h
                          show _ = _
                          kernel_rfl
                        · replace h := ifT h (beqT hb39)
                          conv => lhs; whnf
                          try (rw [hb39]; conv => lhs; whnf)
                          obtain ⟨y40, h_y40, h⟩ := callK_inv h
                          rw [cl_eq hcl (L_spec_ValidMap y4.1 h_y40)]
                          rotate_left
                          · show _ = _
                            kernel_rfl
                          · show _ = _
                            kernel_rfl
                          conv => lhs; whnf
                          try (rw [hb39]; conv => lhs; whnf)
                          obtain rfl := Option.some.inj h
                          show _ = _
                          kernel_rfl
                  · replace h := ifT h (bneT hb16)
                    conv => lhs; whnf
                    obtain rfl := Option.some.inj h
                    show _ = _
                    kernel_rfl
              · replace h := ifT h hb14
                conv => lhs; whnf
                try (rw [hb14]; conv => lhs; whnf)
                try (rw [hb14]; conv => lhs; whnf)
                try (rw [hb14]; conv => lhs; whnf)
                obtain rfl := Option.some.inj h
                show _ = _
                kernel_rfl
            · replace h := ifT h (bneT hb13)
              conv => lhs; whnf
              try (rw [hb13]; conv => lhs; whnf)
              try (rw [hb13]; conv => lhs; whnf)
              try (rw [hb13]; conv => lhs; whnf)
              obtain rfl := Option.some.inj h
              show _ = _
              kernel_rfl
        · replace h := ifT h (bneT hb9)
          conv => lhs; whnf
          obtain rfl := Option.some.inj h
          show _ = _
          kernel_rfl
    · replace h := ifT h (bneT hb6)
      conv => lhs; whnf
      try (rw [hb6]; conv => lhs; whnf)
      try (rw [hb6]; conv => lhs; whnf)
      try (rw [hb6]; conv => lhs; whnf)
      try (rw [hb6]; conv => lhs; whnf)
      obtain rfl := Option.some.inj h
      show _ = _
      kernel_rfl
  · replace h := ifT h hb2
    conv => lhs; whnf
    obtain rfl := Option.some.inj h
    show _ = _
    kernel_rfl
theorem amongO_ok {b : Int} {s : Sl00Src} (l : List Int) (hl : 0 < l.length) (hb : 0 ≤ b) (h : SrcOk (b + 2) s) : ∃ r s', p_spec_l00Src_among' s l = some (r, s') ∧ r ∈ l ∧ SrcOk b s' := by
  obtain ⟨r, s1, e1, ⟨b1, b2, b3⟩, o1⟩ := pick_ok (l.length : Int) hb h
  unfold p_spec_l00Src_among'
  have hr : r < (l.length : Int) := by
    rcases Nat.lt_or_ge 1 l.length with h | h
    · exact b2 (by omega)
    · have := b3 (by omega); omega
  rw [e1, callK_some, getK_in b1 hr]
  exact ⟨_, _, rfl, List.getElem_mem _, o1⟩

theorem forK_allI {α R : Type} {l : List α} {f : Nat → α → Unit → (Unit → Option R) → Option R} {k : Unit → Option R} (p : Nat → Bool) (b : Option R) (h : ∀ (i : Nat) (hi : i < l.length) nx, f i l[i] () nx = if p i = true then nx () else b) :
    forK l f () k = if (List.range l.length).all p = true then k () else b := by
  refine forK_rule (fun i _ => ∀ j, j < i → p j = true) (fun i hi s hs nx hnx => ?_) (fun s hs => ?_) () (fun j hj => by omega)
  · rw [h i hi]
    cases hp : p i
    · have : (List.range l.length).all p = false := by
        rw [List.all_eq_false]
        exact ⟨i, List.mem_range.mpr hi, by simp [hp]⟩
      rw [this]; rfl
    · rw [if_pos rfl]
      refine hnx () fun j hj => ?_
      by_cases e : j = i
      · subst e; exact hp
      · exact hs j (by omega)
  · have : (List.range l.length).all p = true := List.all_eq_true.mpr fun i hi => hs i (List.mem_range.mp hi)
    rw [this]; rfl
theorem getK_N {α R : Type} {c : List α} {i : Nat} (z : α) (h : i < c.length) (k : α → Option R) : getK c (i : Int) k = k (c.getD i z) := by
  rw [getK_lt h]; congr 1; simp [List.getD, h]

/-! ### The draw -/
theorem new_ok {n : Int} (b p : Int) (h : n ≤ 100) : ∃ x t, p_spec_l09New n b p = some (x, t) ∧ x.length = n.toNat ∧ t.length = n.toNat := by
  unfold p_spec_l09New
  rw [grd_pos (by omega)]
  obtain ⟨r, e, h1, h2⟩ := forI_ex (n := n) (f := fun i ((v6, v7) : List Int × List Bool) nx => grd (appOk (v6.length + 1) 8 = true) <| grd (appOk (v7.length + 1) 1 = true) <| nx ((v6 ++ ([(-1)] : List Int)), (v7 ++ ([false] : List Bool))))
    (k := fun ((v6, v7) : List Int × List Bool) => some (v6, v7)) (Q := fun r => r.1.length = n.toNat ∧ r.2.length = n.toNat) (fun i s => s.1.length = i ∧ s.2.length = i)
    (fun i hi s hs nx hnx => by
      obtain ⟨v6, v7⟩ := s
      dsimp only at hs ⊢
      rw [grd_pos (appOk_of _ _ (by omega)), grd_pos (appOk_of _ _ (by omega))]
      exact hnx _ ⟨by simp [hs.1], by simp [hs.2]⟩)
    (fun s hs => ⟨_, rfl, hs⟩) ([], []) ⟨rfl, rfl⟩
  exact ⟨r.1, r.2, e, h1, h2⟩
def ixOf (l : List Int) (x : Int) : Int := match l.findIdx? fun y => y == x with
  | some j => (j : Int)
  | none => -1
theorem forGo_ix {R : Type} {f : Nat → Int → Unit → (Unit → Option R) → Option R} {x : Int} {g : Int → R} (hf : ∀ i y nx, f i y () nx = if y = x then some (g i) else nx ()) (k : Option R) : ∀ (l : List Int) (n : Nat), forGo f (fun _ => k) n l () =
    match l.findIdx? fun y => y == x with
    | some j => some (g ((n + j : Nat) : Int))
    | none => k
  | [], n => rfl
  | y :: l, n => by
    rw [forGo_cons, hf, List.findIdx?_cons]
    by_cases h : y = x
    · subst h; simp
    · rw [if_neg h, forGo_ix hf k l (n + 1), show (y == x) = false by simpa using h]
      simp only [Bool.false_eq_true, if_false]
      cases l.findIdx? fun y => y == x with
      | none => rfl
      | some j => simp only [Option.map_some]; congr 2; congr 1; omega
theorem forK_ix {f : Nat → Int → Unit → (Unit → Option Int) → Option Int} {x : Int} {l : List Int} (hf : ∀ i y nx, f i y () nx = if y = x then some (i : Int) else nx ()) : forK l f () (fun _ => some (-1)) = some (ixOf l x) := by
  unfold forK
  rw [forGo_ix (g := fun i => i) hf (some (-1)) l 0]
  unfold ixOf
  cases l.findIdx? fun y => y == x with
  | none => rfl
  | some j => simp
theorem ix_lo (l : List Int) (x : Int) : -1 ≤ ixOf l x := by
  unfold ixOf
  split <;> omega
theorem ix_mem {l : List Int} {x : Int} : 0 ≤ ixOf l x ↔ x ∈ l := by
  unfold ixOf
  split
  · rename_i j hj
    rw [List.findIdx?_eq_some_iff_getElem] at hj
    obtain ⟨h1, h2, _⟩ := hj
    have : l[j] = x := by simpa using h2
    exact ⟨fun _ => this ▸ List.getElem_mem h1, fun _ => by omega⟩
  · rename_i hj
    rw [List.findIdx?_eq_none_iff] at hj
    exact ⟨fun h => by omega, fun h => by have := hj x h; simp at this⟩
theorem ix_get {l : List Int} {x : Int} (h : 0 ≤ ixOf l x) : ∃ j : Nat, ixOf l x = j ∧ ∃ hj : j < l.length, l[j] = x ∧ ∀ k (hk : k < j), l[k]'(by omega) ≠ x := by
  unfold ixOf at h ⊢
  split at h
  · rename_i j hj
    rw [List.findIdx?_eq_some_iff_getElem] at hj
    obtain ⟨h1, h2, h3⟩ := hj
    refine ⟨j, rfl, h1, by simpa using h2, fun k hk => by simpa using h3 k hk⟩
  · omega
theorem at_ok (x b p : Int) (l : List Int) (t : List Bool) (h : l.length ≤ 1000) : p_spec_l09At x b p l t = some (if x ≥ 0 then ixOf l x else -1) := by
  unfold p_spec_l09At
  rw [grd_pos (by omega)]
  by_cases hx : x ≥ 0
  · simp only [if_pos hx]
    exact forK_ix fun i y nx => rfl
  · simp only [if_neg hx]
    exact forK_rule (fun _ _ => True) (fun i hi s _ nx hnx => hnx () trivial) (fun s _ => rfl) () trivial
theorem draw_ok {s : Sl00Src} (h : SrcOk 100000 s) : ∃ b p s' m t, p_spec_l09Draw s = some (b, p, s', m, t) ∧ SrcOk 1000 s' ∧ (1 ≤ m.length ∧ m.length ≤ 12) ∧ t.length = m.length := by
  unfold p_spec_l09Draw
  obtain ⟨y1, s1, e1, ⟨b1, b1', _⟩, o1⟩ := pick_ok (b := 90000) 12 (by omega) (h.le (by omega))
  obtain ⟨y2, s2, e2, ⟨b2, b2', _⟩, o2⟩ := pick_ok (b := 80000) 4 (by omega) (o1.le (by omega))
  obtain ⟨y3, s3, e3, ⟨b3, b3', _⟩, o3⟩ := pick_ok (b := 70000) 2 (by omega) (o2.le (by omega))
  have b1' := b1' (by omega)
  rw [e1, callK_some, e2, callK_some, e3, callK_some]
  have w1 : IntKind.i64.wrap (1 + y1) = 1 + y1 := wrap_sm _ (by omega) (by omega)
  dsimp only
  rw [w1]
  obtain ⟨x, t, e4, l1, l2⟩ := new_ok (n := 1 + y1) (IntKind.i64.wrap (2 + y2)) (IntKind.i64.wrap (4 * (IntKind.i64.wrap (1 + y3)))) (by omega)
  rw [e4, callK_some]
  obtain ⟨y5, s5, e5, ⟨b5, b5', _⟩, o5⟩ := pick_ok (b := 60000) 20 (by omega) (o3.le (by omega))
  have b5' := b5' (by omega)
  rw [e5, callK_some]
  dsimp only
  generalize IntKind.i64.wrap (2 + y2) = B
  generalize IntKind.i64.wrap (4 * (IntKind.i64.wrap (1 + y3))) = G
  generalize IntKind.i64.wrap (B * G) = N
  obtain ⟨r, e, hr⟩ := iterK_ex (Q := fun (r : Int × Int × Sl00Src × List Int × List Bool) => SrcOk 1000 r.2.2.1 ∧ (1 ≤ r.2.2.2.1.length ∧ r.2.2.2.1.length ≤ 12) ∧ r.2.2.2.2.length = r.2.2.2.1.length)
    (f := fun ((v6, v7, v8, v9) : (Int × Sl00Src × (List Int) × (List Bool))) (nx10 : (Int × Sl00Src × (List Int) × (List Bool)) → Option (Int × Int × Sl00Src × List Int × List Bool)) =>
      if v6 > 0 then
        callK (p_spec_l00Src_pick N v7) fun y12 =>
        callK (p_spec_l00Src_pick (v8.length : Int) y12.2) fun y13 =>
        callK (p_spec_l09At y12.1 B G v8 v9) fun y14 =>
        if y14 < 0 then
          getK v8 y13.1 fun x16 =>
          callK (p_spec_l00Src_one 5 y13.2) fun y17 =>
          getK v9 y13.1 fun x18 =>
          nx10 ((IntKind.i64.wrap (v6 - 1)), y17.2, (v8.set (Int.toNat y13.1) y12.1), (v9.set (Int.toNat y13.1) y17.1))
        else
          nx10 ((IntKind.i64.wrap (v6 - 1)), y13.2, v8, v9)
      else
        some (B, G, v7, v8, v9))
    (fun d s => s.1 = d ∧ d ≤ 20 ∧ SrcOk (1000 + d * 100) s.2.1 ∧ (1 ≤ s.2.2.1.length ∧ s.2.2.1.length ≤ 12) ∧ s.2.2.2.length = s.2.2.1.length)
    (fun d s hs nx hnx => by
      obtain ⟨v6, v7, v8, v9⟩ := s
      obtain ⟨h1, h2, h3, h4, h5⟩ := hs
      dsimp only at h1 h3 h4 h5 ⊢
      subst h1
      split
      · rename_i hd
        obtain ⟨a, sa, ea, ⟨ba, _, _⟩, oa⟩ := pick_ok (b := 1000 + (d : Int) * 100 - 10) N (by omega) (h3.le (by omega))
        obtain ⟨c, sc, ec, ⟨bc, bc', bc2⟩, oc⟩ := pick_ok (b := 1000 + (d : Int) * 100 - 20) (v8.length : Int) (by omega) (oa.le (by omega))
        have hc : c < (v8.length : Int) := by
          by_cases hl : 1 < (v8.length : Int)
          · exact bc' hl
          · have := bc2 (by omega); omega
        rw [ea, callK_some]
        dsimp only
        rw [ec, callK_some]
        dsimp only
        rw [at_ok _ _ _ _ _ (by omega), callK_some]
        have w : IntKind.i64.wrap ((d : Int) - 1) = ((d - 1 : Nat) : Int) := by rw [wrap_sm _ (by omega) (by omega)]; omega
        rw [w]
        by_cases hq : (if a ≥ 0 then ixOf v8 a else -1) < 0
        · rw [if_pos hq]
          obtain ⟨z, sz, ez, oz⟩ := one_ok (b := 1000 + (d : Int) * 100 - 30) 5 (by omega) (oc.le (by omega))
          rw [getK_in bc hc, ez, callK_some, getK_in bc (by omega)]
          dsimp only
          exact hnx (d - 1) (((d - 1 : Nat) : Int), sz, v8.set (Int.toNat c) a, v9.set (Int.toNat c) z) (by omega) ⟨rfl, by omega, oz.le (by omega), by simpa using h4, by simpa using h5⟩
        · rw [if_neg hq]
          exact hnx (d - 1) (((d - 1 : Nat) : Int), sc, v8, v9) (by omega) ⟨rfl, by omega, oc.le (by omega), h4, h5⟩
      · exact ⟨_, rfl, h3.le (by omega), h4, h5⟩)
    y5.toNat (y5, s5, x, t) (by unfold NN; omega) ⟨by show y5 = _; omega, by omega, o5.le (by omega), by dsimp only; omega, by show t.length = x.length; omega⟩
  exact ⟨r.1, r.2.1, r.2.2.1, r.2.2.2.1, r.2.2.2.2, e, hr⟩
theorem bent_ok {s : Sl00Src} (h : SrcOk 100000 s) : ∃ m s', p_spec_l09Bent s = some (m, s') ∧ SrcOk 500 s' ∧ m.Map.length ≤ 12 ∧ m.Trimmed.length ≤ 13 := by
  unfold p_spec_l09Bent
  obtain ⟨b, p, s1, m, t, e1, o1, ⟨l1, l2⟩, l3⟩ := draw_ok h
  rw [e1, callK_some]
  dsimp only
  obtain ⟨y2, s2, e2, ⟨b2, b2', b2''⟩, o2⟩ := pick_ok (b := 900) (m.length : Int) (by omega) (o1.le (by omega))
  have hy : y2 < (m.length : Int) := by
    by_cases hl : 1 < (m.length : Int)
    · exact b2' hl
    · have := b2'' (by omega); omega
  rw [e2, callK_some]
  dsimp only
  obtain ⟨y3, s3, e3, _, o3⟩ := pick_ok (b := 800) 14 (by omega) (o2.le (by omega))
  rw [e3, callK_some]
  dsimp only
  split
  · obtain ⟨z, sz, ez, _, oz⟩ := amongO_ok (b := 700) (s := s3) ([(-2), (-1), (IntKind.i64.wrap (b * p)), 0] : List Int) (by simp) (by omega) (o3.le (by omega))
    rw [ez, callK_some, getK_in b2 hy]
    exact ⟨_, _, rfl, oz.le (by omega), by simpa using l2, by show t.length ≤ 13; omega⟩
  split
  · rw [grd_pos (appOk_of _ _ (by omega))]
    exact ⟨_, _, rfl, o3.le (by omega), l2, by simp; omega⟩
  split
  · rw [getK_in b2 (by omega)]
    exact ⟨_, _, rfl, o3.le (by omega), l2, by simp; omega⟩
  split
  · obtain ⟨z, sz, ez, _, oz⟩ := amongO_ok (b := 700) (s := s3) ([0, 160, 161, (-1)] : List Int) (by simp) (by omega) (o3.le (by omega))
    rw [ez, callK_some]
    exact ⟨_, _, rfl, oz.le (by omega), l2, by show t.length ≤ 13; omega⟩
  split
  · rw [grd_pos (by omega), grd_pos (by omega)]
    exact ⟨_, _, rfl, o3.le (by omega), by simp, by simp⟩
  · exact ⟨_, _, rfl, o3.le (by omega), l2, by show t.length ≤ 13; omega⟩
theorem set_ok {code : List Int} (h : ∀ x ∈ code, 0 ≤ x ∧ x ≤ 255) (hl : code.length ≤ 1048576) : ∃ m lpn phys trim, p_spec_DrawSetPage code = some (m, lpn, phys, trim) ∧ m.Map.length ≤ 12 ∧ m.Trimmed.length ≤ 13 := by
  unfold p_spec_DrawSetPage
  obtain ⟨s, e0, o0⟩ := from_ok h hl
  rw [e0, callK_some]
  obtain ⟨m, s1, e1, o1, l1, l2⟩ := bent_ok (o0.le (by omega))
  rw [e1, callK_some]
  dsimp only
  obtain ⟨y3, s3, e3, _, o3⟩ := pick_ok (b := 400) 50 (by omega) (o1.le (by omega))
  rw [e3, callK_some]
  dsimp only
  split
  · rename_i hp
    obtain ⟨y5, s5, e5, o5⟩ := one_ok (b := 300) 4 (by omega) (o3.le (by omega))
    rw [e5, callK_some]
    dsimp only
    split
    · obtain ⟨y7, s7, e7, ⟨b7, b7', b7''⟩, o7⟩ := pick_ok (b := 200) (m.Map.length : Int) (by omega) (o5.le (by omega))
      have hy : y7 < (m.Map.length : Int) := by
        by_cases hl : 1 < (m.Map.length : Int)
        · exact b7' hl
        · have := b7'' (by omega); omega
      rw [e7, callK_some, getK_in b7 hy]
      dsimp only
      obtain ⟨y9, s9, e9, _, o9⟩ := pick_ok (b := 100) 14 (by omega) (o7.le (by omega))
      obtain ⟨y10, s10, e10, o10⟩ := one_ok (b := 10) 3 (by omega) (o9.le (by omega))
      rw [e9, callK_some, e10, callK_some]
      exact ⟨_, _, _, _, rfl, l1, l2⟩
    · obtain ⟨y9, s9, e9, _, o9⟩ := pick_ok (b := 100) 14 (by omega) (o5.le (by omega))
      obtain ⟨y10, s10, e10, o10⟩ := one_ok (b := 10) 3 (by omega) (o9.le (by omega))
      rw [e9, callK_some, e10, callK_some]
      exact ⟨_, _, _, _, rfl, l1, l2⟩
  · obtain ⟨y9, s9, e9, _, o9⟩ := pick_ok (b := 100) 14 (by omega) (o3.le (by omega))
    obtain ⟨y10, s10, e10, o10⟩ := one_ok (b := 10) 3 (by omega) (o9.le (by omega))
    rw [e9, callK_some, e10, callK_some]
    exact ⟨_, _, _, _, rfl, l1, l2⟩
/-! ### Validity -/
def szOk (a b : Int) : Bool := inR a 1 640 && (inR b 1 640 && decide (a * b ≤ 640))
def okE (m : PageMap) (i : Nat) : Bool := inR (m.Map.getD i 0) (-1) (m.Blocks * m.Pages - 1) && (!(decide (m.Map.getD i 0 < 0) && m.Trimmed.getD i false) && !(decide (m.Map.getD i 0 ≥ 0) && decide (m.Map.getD i 0 ∈ m.Map.take i)))
def okM (m : PageMap) : Bool := szOk m.Blocks m.Pages && (inR (m.Map.length : Int) 1 48 && (m.Trimmed.length == m.Map.length && (List.range m.Map.length).all (okE m)))
theorem szOk_iff {a b : Int} : szOk a b = true ↔ (1 ≤ a ∧ a ≤ 640) ∧ (1 ≤ b ∧ b ≤ 640) ∧ a * b ≤ 640 := by simp [szOk, inR_iff]
theorem sz_pos {a b : Int} (h : szOk a b = true) : 1 ≤ a * b := by
  obtain ⟨⟨h1, _⟩, ⟨h2, _⟩, _⟩ := szOk_iff.mp h
  have := Int.mul_le_mul h1 h2 (by omega) (by omega)
  omega
theorem okM_iff {m : PageMap} : okM m = true ↔ szOk m.Blocks m.Pages = true ∧ (1 ≤ (m.Map.length : Int) ∧ (m.Map.length : Int) ≤ 48) ∧ m.Trimmed.length = m.Map.length ∧ ∀ i, i < m.Map.length → okE m i = true := by
  unfold okM
  simp only [Bool.and_eq_true, inR_iff, beq_iff_eq, List.all_eq_true, List.mem_range]
theorem pl_size (a b : Int) : p_impl_sizeOk a b = some (szOk a b) := by
  unfold p_impl_sizeOk szOk
  cases ha : inR a 1 640
  · rfl
  have h := inR_iff.mp ha
  rw [if_pos rfl, grd_pos (by omega), Bool.true_and]
  have e : Int.tdiv 640 a = 640 / a := Int.tdiv_eq_ediv_of_nonneg (by omega)
  have hd : 640 / a ≤ 640 := Int.ediv_le_self a (by omega)
  have hd0 : 0 ≤ 640 / a := Int.ediv_nonneg (by omega) (by omega)
  rw [e, wrap_sm _ (by omega) (by omega)]
  congr 1
  rw [Bool.eq_iff_iff]
  simp only [Bool.and_eq_true, inR_iff, decide_eq_true_eq]
  have hk : b ≤ 640 / a ↔ b * a ≤ 640 := Int.le_ediv_iff_mul_le (by omega)
  rw [hk, Int.mul_comm b a]
  constructor
  · rintro ⟨h1, h2⟩
    have := hk.mpr (by rw [Int.mul_comm]; exact h2)
    omega
  · rintro ⟨h1, h2⟩; omega
theorem pl_ssize (n a b : Int) : p_spec_l09Size n a b = some (inR n 1 48 && szOk a b) := by
  unfold p_spec_l09Size szOk
  cases inR n 1 48 <;> try rfl
  cases ha : inR a 1 640 <;> try rfl
  cases hb : inR b 1 640 <;> try rfl
  have h1 := inR_iff.mp ha
  have h2 := inR_iff.mp hb
  have h3 : 0 ≤ a * b := Int.mul_nonneg (by omega) (by omega)
  have h4 : a * b ≤ 640 * 640 := Int.mul_le_mul h1.2 h2.2 (by omega) (by omega)
  rw [wrap_sm _ (by omega) (by omega)]
  rfl
theorem pl_index (l : List Int) (x : Int) (h : l.length ≤ 1000) : p_slices_Index l x = some (ixOf l x) := by
  unfold p_slices_Index
  rw [grd_pos (by omega)]
  exact forK_ix fun i y nx => by
    by_cases e : x = y
    · rw [if_pos e, if_pos e.symm]
    · rw [if_neg e, if_neg (Ne.symm e)]
theorem pl_contains (l : List Int) (x : Int) (h : l.length ≤ 1000) : p_slices_Contains l x = some (decide (x ∈ l)) := by
  unfold p_slices_Contains
  rw [pl_index _ _ h, callK_some]
  congr 1
  rw [decide_eq_decide]
  exact ix_mem
theorem take_drop0 (l : List Int) (i : Nat) : (l.drop (Int.toNat 0)).take (Int.toNat (i : Int) - Int.toNat 0) = l.take i := by simp
theorem pl_iV {m : PageMap} (h : m.Map.length ≤ 1000) : p_impl_ValidMap m = some (okM m) := by
  unfold p_impl_ValidMap okM
  rw [pl_size, callK_some]
  cases hs : szOk m.Blocks m.Pages
  · rfl
  have hz := szOk_iff.mp hs
  have hp := sz_pos hs
  rw [if_pos rfl, Bool.true_and]
  cases hn : inR (m.Map.length : Int) 1 48
  · rfl
  rw [if_pos rfl, Bool.true_and]
  by_cases ht : m.Trimmed.length = m.Map.length
  · rw [if_neg (by omega), grd_pos (by omega), forK_allI (okE m) (some false) (fun i hi nx => ?_)]
    · rw [show (m.Trimmed.length == m.Map.length) = true by simpa using ht, Bool.true_and]
      cases (List.range m.Map.length).all (okE m) <;> rfl
    · have w1 : IntKind.i64.wrap (m.Blocks * m.Pages) = m.Blocks * m.Pages := wrap_sm _ (by omega) (by omega)
      unfold p_impl_PageMap_physical okE
      rw [callK_some, w1, wrap_sm _ (by omega) (by omega)]
      have ex : m.Map[i] = m.Map.getD i 0 := by simp [List.getD, hi]
      rw [ex]
      generalize m.Map.getD i 0 = x
      cases inR x (-1) (m.Blocks * m.Pages - 1)
      · rfl
      rw [if_pos rfl]
      by_cases hx : x < 0
      · rw [if_pos hx, getK_N false (by omega)]
        cases m.Trimmed.getD i false
        · rw [if_neg (by decide), if_neg (by omega)]
          simp [show ¬ x ≥ 0 by omega]
        · rw [if_pos rfl]
          simp [hx]
      · rw [if_neg hx, if_pos (by omega), grd_pos (by omega), take_drop0, pl_contains _ _ (by rw [List.length_take]; omega), callK_some]
        by_cases hm : x ∈ m.Map.take i
        · simp [hx, hm, show x ≥ 0 by omega]
        · simp [hx, hm]
  · rw [if_pos (by omega), show (m.Trimmed.length == m.Map.length) = false by simpa using ht]
    rfl
theorem inner_ok {R : Type} {l : List Int} {x : Int} {i : Nat} (hi : i ≤ l.length) (a : Option R) (k : Unit → Option R) :
    forI (i : Int) (fun (j : Nat) (_ : Unit) (nx : Unit → Option R) => if x ≥ 0 then getK l (j : Int) fun y => if y = x then a else nx () else nx ()) () k = if x ≥ 0 ∧ x ∈ l.take i then a else k () := by
  by_cases hx : x ≥ 0
  · refine forI_rule (fun j _ => x ∉ l.take j) (fun j hj s hs nx hnx => ?_) (fun s hs => ?_) () (by simp)
    · rw [if_pos hx, getK_lt (show j < l.length by omega)]
      by_cases e : l[j]'(by omega) = x
      · rw [if_pos e, if_pos]
        exact ⟨hx, e ▸ List.mem_take_iff_getElem.mpr ⟨j, by omega, rfl⟩⟩
      · rw [if_neg e]
        refine hnx () ?_
        rw [List.take_succ_eq_append_getElem (show j < l.length by omega)]
        simp only [List.mem_append, List.mem_singleton, not_or]
        exact ⟨hs, fun h => e h.symm⟩
    · rw [Int.toNat_natCast] at hs
      rw [if_neg (by rintro ⟨_, h⟩; exact hs h)]
  · rw [if_neg (by rintro ⟨h, _⟩; exact hx h)]
    refine forI_rule (f := fun (j : Nat) (_ : Unit) (nx : Unit → Option R) => if x ≥ 0 then getK l (j : Int) fun y => if y = x then a else nx () else nx ()) (k := k) (res := k ()) (fun _ _ => True) (fun j hj s _ nx hnx => ?_) (fun s _ => rfl) () trivial
    rw [if_neg hx]; exact hnx () trivial
theorem pl_sOk {m : PageMap} (h : m.Map.length ≤ 1000) : p_spec_l09Ok m = some (okM m) := by
  unfold p_spec_l09Ok okM
  rw [pl_ssize, callK_some]
  cases hs : szOk m.Blocks m.Pages
  · simp
  have hz := szOk_iff.mp hs
  have hp := sz_pos hs
  rw [Bool.true_and, Bool.and_true]
  cases hn : inR (m.Map.length : Int) 1 48
  · rfl
  rw [if_pos rfl, Bool.true_and]
  by_cases ht : m.Trimmed.length = m.Map.length
  · rw [if_neg (by omega), grd_pos (by omega), forK_allI (okE m) (some false) (fun i hi nx => ?_)]
    · rw [show (m.Trimmed.length == m.Map.length) = true by simpa using ht, Bool.true_and]
      cases (List.range m.Map.length).all (okE m) <;> rfl
    · have w1 : IntKind.i64.wrap (m.Blocks * m.Pages) = m.Blocks * m.Pages := wrap_sm _ (by omega) (by omega)
      unfold okE
      rw [w1, wrap_sm _ (by omega) (by omega)]
      have ex : m.Map[i] = m.Map.getD i 0 := by simp [List.getD, hi]
      rw [ex]
      generalize m.Map.getD i 0 = x
      cases inR x (-1) (m.Blocks * m.Pages - 1)
      · rfl
      rw [if_pos rfl]
      by_cases hx : x < 0
      · rw [if_pos hx, getK_N false (by omega)]
        cases m.Trimmed.getD i false
        · rw [if_neg (by decide), grd_pos (by omega), inner_ok (by omega), if_neg (by omega)]
          simp [show ¬ x ≥ 0 by omega]
        · rw [if_pos rfl]
          simp [hx]
      · rw [if_neg hx, grd_pos (by omega), inner_ok (by omega)]
        by_cases hm : x ∈ m.Map.take i
        · rw [if_pos ⟨by omega, hm⟩]
          simp [hx, hm, show x ≥ 0 by omega]
        · rw [if_neg (by rintro ⟨_, h⟩; exact hm h)]
          simp [hx, hm]
  · rw [if_pos (by omega), show (m.Trimmed.length == m.Map.length) = false by simpa using ht]
    rfl
theorem at_ok' {x : Int} {m : PageMap} (h : m.Map.length ≤ 1000) (hx : 0 ≤ x) : p_spec_l09At' x m = some (ixOf m.Map x) := by
  unfold p_spec_l09At'
  rw [grd_pos (by omega)]
  simp only [ge_iff_le, if_pos hx]
  exact forK_ix fun i y nx => rfl
/-! ### The page set -/
def nilM : PageMap := ⟨0, 0, [], []⟩
def setP (m : PageMap) (l p : Int) (t : Bool) : PageMap × Int :=
  if okM m = true then if inR l 0 ((m.Map.length : Int) - 1) = true then if inR p 0 (m.Blocks * m.Pages - 1) = true then
    if 0 ≤ ixOf m.Map p ∧ ixOf m.Map p ≠ l then (nilM, 5) else (⟨m.Blocks, m.Pages, m.Map.set l.toNat p, m.Trimmed.set l.toNat t⟩, 0)
  else (nilM, 2) else (nilM, 2) else (nilM, 1)
theorem pl_iSet (m : PageMap) (l p : Int) (t : Bool) (h : m.Map.length ≤ 1000) : p_impl_SetPage m l p t = some (setP m l p t) := by
  unfold p_impl_SetPage setP
  rw [pl_iV h, callK_some]
  by_cases hv : okM m = true
  · obtain ⟨hs, hn, ht, _⟩ := okM_iff.mp hv
    have hz := szOk_iff.mp hs
    have hp := sz_pos hs
    rw [if_pos hv, if_pos hv]
    unfold p_impl_isIndex p_impl_PageMap_physical
    rw [callK_some, wrap_sm _ (by omega) (by omega)]
    by_cases hl : inR l 0 ((m.Map.length : Int) - 1) = true
    · have hl2 := inR_iff.mp hl
      rw [if_pos hl, if_pos hl, callK_some, wrap_sm (m.Blocks * m.Pages) (by omega) (by omega), wrap_sm _ (by omega) (by omega)]
      by_cases hpp : inR p 0 (m.Blocks * m.Pages - 1) = true
      · have cl : p_impl_PageMap_clone m = some (m.Blocks, m.Pages, m.Map, m.Trimmed) := by
          unfold p_impl_PageMap_clone
          rw [grd_pos (appOk_of _ _ (by omega)), grd_pos (appOk_of _ _ (by omega))]
        rw [if_pos hpp, if_pos hpp, pl_index _ _ h, callK_some, cl]
        simp only [callK_some]
        rw [getK_in hl2.1 (by omega), getK_in hl2.1 (by omega)]
        by_cases h1 : 0 ≤ ixOf m.Map p
        · rw [if_pos h1]
          by_cases h2 : ixOf m.Map p = l
          · rw [if_neg (by simpa using h2), if_neg (by rintro ⟨_, h⟩; exact h h2)]
          · rw [if_pos h2, if_pos ⟨h1, h2⟩]; rfl
        · rw [if_neg h1, if_neg (by rintro ⟨h, _⟩; exact h1 h)]
      · rw [if_neg hpp, if_neg hpp]; rfl
    · rw [if_neg hl, if_neg hl]; rfl
  · rw [if_neg hv, if_neg hv]; rfl
theorem pl_sSet (m : PageMap) (l p : Int) (t : Bool) (h : m.Map.length ≤ 1000) : p_spec_SetPage m l p t = some (setP m l p t) := by
  unfold p_spec_SetPage setP
  rw [pl_sOk h, callK_some]
  by_cases hv : okM m = true
  · obtain ⟨hs, hn, ht, _⟩ := okM_iff.mp hv
    have hz := szOk_iff.mp hs
    have hp := sz_pos hs
    rw [if_pos hv, if_pos hv, wrap_sm _ (by omega) (by omega)]
    by_cases hl : inR l 0 ((m.Map.length : Int) - 1) = true
    · have hl2 := inR_iff.mp hl
      rw [if_pos hl, if_pos hl, wrap_sm (m.Blocks * m.Pages) (by omega) (by omega), wrap_sm _ (by omega) (by omega)]
      by_cases hpp : inR p 0 (m.Blocks * m.Pages - 1) = true
      · have cl : p_spec_l09Own m = some (m.Blocks, m.Pages, m.Map, m.Trimmed) := by
          unfold p_spec_l09Own p_spec_l00Own
          rw [grd_pos (appOk_of _ _ (by omega)), callK_some, grd_pos (appOk_of _ _ (by omega))]
        rw [if_pos hpp, if_pos hpp, at_ok' h (inR_iff.mp hpp).1, callK_some, cl]
        simp only [callK_some]
        rw [getK_in hl2.1 (by omega), getK_in hl2.1 (by omega)]
        by_cases h1 : 0 ≤ ixOf m.Map p
        · rw [if_pos h1]
          by_cases h2 : ixOf m.Map p = l
          · rw [if_neg (by simpa using h2), if_neg (by rintro ⟨_, h⟩; exact h h2)]
          · rw [if_pos h2, if_pos ⟨h1, h2⟩]; rfl
        · rw [if_neg h1, if_neg (by rintro ⟨h, _⟩; exact h1 h)]
      · rw [if_neg hpp, if_neg hpp]; rfl
    · rw [if_neg hl, if_neg hl]; rfl
  · rw [if_neg hv, if_neg hv]; rfl
theorem same_self (l : List Int) (h : l.length ≤ 1000) : p_spec_l00Same l l = some true := by
  unfold p_spec_l00Same
  rw [if_neg (by simp), grd_pos (by omega)]
  exact forK_rule (fun _ _ => True) (fun i hi s _ nx hnx => by rw [getK_lt hi, if_neg (by simp)]; exact hnx () trivial) (fun s _ => rfl) () trivial
theorem sameM_self (m : PageMap) (h : m.Map.length ≤ 1000) (h2 : m.Trimmed.length ≤ 1000) : p_spec_SameMap m m = some true := by
  unfold p_spec_SameMap
  rw [if_neg (by simp), if_neg (by simp), same_self _ h, callK_some, if_pos rfl, if_neg (by simp), grd_pos (by omega)]
  exact forK_rule (fun _ _ => True) (fun i hi s _ nx hnx => by rw [getK_lt hi, if_pos (by simp)]; exact hnx () trivial) (fun s _ => rfl) () trivial
/-! ### What is live -/
def cnt (l : List Int) (a n : Nat) : Nat := (List.range' a n).countP fun (p : Nat) => decide ((p : Int) ∈ l)
theorem cnt_zero (l : List Int) (a : Nat) : cnt l a 0 = 0 := rfl
theorem cnt_succ (l : List Int) (a n : Nat) : cnt l a (n + 1) = cnt l a n + if ((a + n : Nat) : Int) ∈ l then 1 else 0 := by
  unfold cnt
  rw [List.range'_concat, List.countP_append]
  simp only [Nat.one_mul, List.countP_singleton]
  congr 1
  split <;> split <;> simp_all
theorem cnt_add (l : List Int) (a n k : Nat) : cnt l a (n + k) = cnt l a n + cnt l (a + n) k := by
  induction k with
  | zero => rfl
  | succ k ih => rw [← Nat.add_assoc, cnt_succ, cnt_succ, ih]; simp only [Nat.add_assoc]
theorem cnt_le (l : List Int) (a n : Nat) : cnt l a n ≤ n := by
  unfold cnt
  have := List.countP_le_length (p := fun (p : Nat) => decide ((p : Int) ∈ l)) (l := List.range' a n)
  simpa using this
/-- Distinct numbers are counted once each. -/
theorem cnt_snoc {l : List Int} {x : Int} {N : Nat} (hx : x < N) (hd : 0 ≤ x → x ∉ l) : ∀ n, n ≤ N → cnt (l ++ [x]) 0 n = cnt l 0 n + if 0 ≤ x ∧ x < n then 1 else 0
  | 0, _ => by rw [cnt_zero, cnt_zero, if_neg (by omega)]
  | n + 1, h => by
    rw [cnt_succ, cnt_succ, cnt_snoc hx hd n (by omega)]
    simp only [Nat.zero_add, List.mem_append, List.mem_singleton]
    have a1 : (if (n : Int) ∈ l ∨ (n : Int) = x then 1 else 0) = (if (n : Int) ∈ l then 1 else 0) + if (n : Int) = x then 1 else 0 := by
      by_cases e : (n : Int) = x
      · subst e
        rw [if_pos (.inr rfl), if_neg (hd (by omega)), if_pos rfl]
      · by_cases hm : (n : Int) ∈ l
        · rw [if_pos (.inl hm), if_pos hm, if_neg e]
        · rw [if_neg (fun h => h.elim hm e), if_neg hm, if_neg e]
    have a2 : (if 0 ≤ x ∧ x < ((n + 1 : Nat) : Int) then 1 else 0) = (if 0 ≤ x ∧ x < (n : Int) then 1 else 0) + if (n : Int) = x then 1 else 0 := by
      by_cases e : (n : Int) = x
      · rw [if_pos (show 0 ≤ x ∧ x < ((n + 1 : Nat) : Int) by omega), if_neg (show ¬ (0 ≤ x ∧ x < (n : Int)) by omega), if_pos e]
      · by_cases hc : 0 ≤ x ∧ x < (n : Int)
        · rw [if_pos (show 0 ≤ x ∧ x < ((n + 1 : Nat) : Int) by omega), if_pos hc, if_neg e]
        · rw [if_neg (show ¬ (0 ≤ x ∧ x < ((n + 1 : Nat) : Int)) by omega), if_neg hc, if_neg e]
    rw [a1, a2]
    omega
theorem cnt_all {l : List Int} {N : Nat} (hb : ∀ i, i < l.length → l.getD i 0 < N) (hd : ∀ i, i < l.length → 0 ≤ l.getD i 0 → l.getD i 0 ∉ l.take i) : ∀ n, n ≤ l.length → cnt (l.take n) 0 N = (l.take n).countP fun x => decide (0 ≤ x)
  | 0, _ => by
    rw [List.take_zero]
    unfold cnt
    simp
  | n + 1, h => by
    have hn : n < l.length := by omega
    have e : l[n] = l.getD n 0 := by simp [List.getD, hn]
    rw [List.take_succ_eq_append_getElem hn, e, cnt_snoc (N := N) (hb n hn) (hd n hn) N (Nat.le_refl _), cnt_all hb hd n (by omega), List.countP_append, List.countP_singleton]
    have := hb n hn
    by_cases hx : 0 ≤ l.getD n 0
    · rw [if_pos ⟨hx, this⟩, if_pos (by simpa using hx)]
    · rw [if_neg (by omega), if_neg (by simpa using hx)]
theorem at_pl {m : PageMap} (h : m.Map.length ≤ 1000) {x : Int} (hx : 0 ≤ x) : p_impl_PageMap_at m x = some (ixOf m.Map x) := by
  unfold p_impl_PageMap_at
  rw [if_neg (by omega), pl_index _ _ h, callK_some]
theorem live_ok {m : PageMap} (hv : okM m = true) {b : Nat} (hb : (b : Int) < m.Blocks) : ∃ r, p_impl_PageMap_live m b = some r ∧ r.length = cnt m.Map (b * m.Pages.toNat) m.Pages.toNat := by
  obtain ⟨hs, hn, ht, _⟩ := okM_iff.mp hv
  obtain ⟨⟨z1, z2⟩, ⟨z3, z4⟩, z5⟩ := szOk_iff.mp hs
  unfold p_impl_PageMap_live
  obtain ⟨P, hP⟩ : ∃ P : Nat, m.Pages = P := ⟨m.Pages.toNat, by omega⟩
  rw [hP] at z3 z4 z5 ⊢
  rw [Int.toNat_natCast]
  have h1 : ((b : Int) + 1) * P ≤ 640 := Int.le_trans (Int.mul_le_mul_of_nonneg_right (by omega) (by omega)) z5
  have h2 : ((b : Int) + 1) * P = (b * P : Nat) + P := by rw [Int.add_mul, Int.one_mul, Int.natCast_mul]
  have w1 : IntKind.i64.wrap ((b : Int) + 1) = (b : Int) + 1 := wrap_sm _ (by omega) (by omega)
  have w2 : IntKind.i64.wrap ((b : Int) * P) = (b * P : Nat) := by rw [wrap_sm _ (by rw [← Int.natCast_mul]; omega) (by rw [← Int.natCast_mul]; omega), Int.natCast_mul]
  rw [w1, w2, h2, wrap_sm _ (by omega) (by omega)]
  generalize b * P = a at *
  refine iterK_ex (fun (d : Nat) (s : Int × List Int) => ∃ k : Nat, k + d = P ∧ s.1 = ((a + k : Nat) : Int) ∧ s.2.length = cnt m.Map a k) (fun d s hs nx hnx => ?_) P (((a : Nat) : Int), []) (by unfold NN; omega) ⟨0, by omega, by simp, rfl⟩
  obtain ⟨v1, v2⟩ := s
  obtain ⟨k, g1, g2, g3⟩ := hs
  dsimp only at g2 g3 ⊢
  subst g2
  have hc := cnt_le m.Map a k
  by_cases hd : d = 0
  · rw [if_neg (by omega)]
    exact ⟨_, rfl, by rw [g3]; congr 1; omega⟩
  · rw [if_pos (by omega), at_pl (by omega) (by omega), callK_some]
    have w3 : IntKind.i64.wrap (((a + k : Nat) : Int) + 1) = ((a + (k + 1) : Nat) : Int) := by rw [wrap_sm _ (by omega) (by omega)]; omega
    rw [w3]
    by_cases hm : ((a + k : Nat) : Int) ∈ m.Map
    · rw [if_pos (ix_mem.mpr hm), grd_pos (appOk_of _ _ (by omega))]
      refine hnx (d - 1) _ (by omega) ⟨k + 1, by omega, rfl, ?_⟩
      dsimp only
      rw [List.length_append, cnt_succ, if_pos hm, g3]; rfl
    · rw [if_neg (fun h => hm (ix_mem.mp h))]
      refine hnx (d - 1) _ (by omega) ⟨k + 1, by omega, rfl, ?_⟩
      dsimp only
      rw [cnt_succ, if_neg hm, g3]; rfl
theorem liveIn_ok {m : PageMap} (hv : okM m = true) {b : Nat} (hb : (b : Int) < m.Blocks) : ∃ r, p_impl_LiveIn m b = some r ∧ p_impl_LivePages m b = some (r.length : Int) ∧ r.length = cnt m.Map (b * m.Pages.toNat) m.Pages.toNat := by
  obtain ⟨hs, hn, ht, _⟩ := okM_iff.mp hv
  obtain ⟨⟨z1, z2⟩, _, _⟩ := szOk_iff.mp hs
  obtain ⟨r, e, hr⟩ := live_ok hv hb
  have e2 : p_impl_LiveIn m b = some r := by
    unfold p_impl_LiveIn
    rw [pl_iV (by omega), callK_some, if_pos hv, wrap_sm _ (by omega) (by omega), if_pos (inR_iff.mpr (by omega)), e, callK_some]
  exact ⟨r, e2, by unfold p_impl_LivePages; rw [e2, callK_some], hr⟩
/-- The last part of the law: the live pages are counted. -/
theorem count_ok {m : PageMap} (hv : okM m = true) : (grd (m.Blocks < 4611686018427387904) <| forI m.Blocks (fun (i23 : Nat) (v24 : Int) (nx25 : Int → Option Bool) =>
      callK (p_impl_LivePages m (i23 : Int)) fun y26 =>
      callK (p_impl_LiveIn m (i23 : Int)) fun y27 =>
      if ¬ y26 = (y27.length : Int) then
        some false
      else
        nx25 (IntKind.i64.wrap (v24 + y26))) 0 (fun (v24 : Int) =>
      grd (m.Map.length < 4611686018427387904) <|
      forK m.Map (fun (i34 : Nat) x37 (v35 : Int) (nx36 : Int → Option Bool) =>
        if x37 ≥ 0 then
          nx36 (IntKind.i64.wrap (v35 + 1))
        else
          nx36 v35) 0 (fun (v35 : Int) =>
        if v24 = v35 then
          callK (p_spec_ValidMap m) fun y40 =>
          some y40
        else
          some false))) = some true := by
  obtain ⟨hs, hn, ht, hE⟩ := okM_iff.mp hv
  obtain ⟨⟨z1, z2⟩, ⟨z3, z4⟩, z5⟩ := szOk_iff.mp hs
  rw [grd_pos (by omega)]
  obtain ⟨P, hP⟩ : ∃ P : Nat, m.Pages = P := ⟨m.Pages.toNat, by omega⟩
  obtain ⟨B, hB⟩ : ∃ B : Nat, m.Blocks = B := ⟨m.Blocks.toNat, by omega⟩
  have hBP : B * P ≤ 640 := by rw [hP, hB, ← Int.natCast_mul] at z5; omega
  refine forI_rule (fun i (v : Int) => v = ((cnt m.Map 0 (i * P) : Nat) : Int)) (fun i hi v hv2 nx hnx => ?_) (fun v hv2 => ?_) 0 (by simp [cnt])
  · obtain ⟨r, e1, e2, hr⟩ := liveIn_ok hv hi
    rw [e2, callK_some, e1, callK_some, if_neg (by simp)]
    rw [hP, Int.toNat_natCast] at hr
    subst hv2
    have h1 := cnt_le m.Map 0 (i * P)
    have h2 := cnt_le m.Map (i * P) P
    have h3 : i * P ≤ 640 := Nat.le_trans (Nat.mul_le_mul_right _ (show i ≤ B by omega)) hBP
    rw [hP] at z4
    refine hnx _ ?_
    rw [wrap_sm _ (by omega) (by omega), Nat.succ_mul, cnt_add, Nat.zero_add, hr]
    omega
  · rw [grd_pos (by omega)]
    have hall : cnt m.Map 0 (B * P) = m.Map.countP fun x => decide (0 ≤ x) := by
      have := cnt_all (l := m.Map) (N := B * P) (fun i hi => ?_) (fun i hi h0 => ?_) m.Map.length (Nat.le_refl _)
      · rwa [List.take_length] at this
      · have := hE i hi
        unfold okE at this
        simp only [Bool.and_eq_true, inR_iff] at this
        have := this.1.2
        rw [hB, hP, ← Int.natCast_mul] at this
        omega
      · have := hE i hi
        unfold okE at this
        simp only [Bool.and_eq_true] at this
        have := this.2.2
        simp only [ge_iff_le, h0, decide_true, Bool.true_and, Bool.not_eq_true', decide_eq_false_iff_not] at this
        exact this
    have hv3 : v = (m.Map.countP fun x => decide (0 ≤ x) : Nat) := by rw [hv2, hB, Int.toNat_natCast, hall]
    refine forK_rule (fun i (s : Int) => s = (((m.Map.take i).countP fun x => decide (0 ≤ x) : Nat) : Int)) (fun i hi s hs2 nx hnx => ?_) (fun s hs2 => ?_) 0 (by simp)
    · have hc : (m.Map.take i).countP (fun x => decide (0 ≤ x)) ≤ i := Nat.le_trans List.countP_le_length (by rw [List.length_take]; omega)
      have e : ((m.Map.take (i + 1)).countP fun x => decide (0 ≤ x)) = ((m.Map.take i).countP fun x => decide (0 ≤ x)) + if m.Map[i] ≥ 0 then 1 else 0 := by
        rw [List.take_succ_eq_append_getElem hi, List.countP_append, List.countP_singleton]
        congr 1
        simp
      subst hs2
      by_cases hx : m.Map[i] ≥ 0
      · rw [if_pos hx]
        rw [if_pos hx] at e
        exact hnx _ (by rw [e, wrap_sm _ (by omega) (by omega)]; omega)
      · rw [if_neg hx]
        rw [if_neg hx] at e
        exact hnx _ (by rw [e]; rfl)
    · rw [List.take_length] at hs2
      rw [hs2, hv3, if_pos rfl]
      unfold p_spec_ValidMap
      rw [pl_sOk (by omega), callK_some, callK_some, hv]
/-! ### The law -/
theorem setP_ok {m : PageMap} {l p : Int} {t : Bool} (hv : okM m = true) (hl : 0 ≤ l ∧ l < m.Map.length) (hp : 0 ≤ p ∧ p < m.Blocks * m.Pages) (hc : ¬ (0 ≤ ixOf m.Map p ∧ ixOf m.Map p ≠ l)) :
    okM ⟨m.Blocks, m.Pages, m.Map.set l.toNat p, m.Trimmed.set l.toNat t⟩ = true ∧ ixOf (m.Map.set l.toNat p) p = l := by
  obtain ⟨hs, hn, ht, hE⟩ := okM_iff.mp hv
  obtain ⟨j, rfl⟩ := Int.eq_ofNat_of_zero_le hl.1
  have hj : j < m.Map.length := by omega
  rw [Int.toNat_natCast]
  have other : ∀ i (hi : i < m.Map.length), i ≠ j → m.Map[i] ≠ p := by
    intro i hi hne e
    have hm : p ∈ m.Map := e ▸ List.getElem_mem hi
    have h0 := ix_mem.mpr hm
    obtain ⟨k, e1, hk, e2, e3⟩ := ix_get h0
    have hkj : k = j := by
      by_cases h : ixOf m.Map p = (j : Int)
      · omega
      · exact absurd ⟨h0, h⟩ hc
    subst hkj
    rcases Nat.lt_or_ge i k with h | h
    · exact e3 i h e
    · have hki : k < i := by omega
      have := hE i hi
      unfold okE at this
      simp only [Bool.and_eq_true] at this
      have := this.2.2
      have ed : m.Map.getD i 0 = p := by simp [List.getD, hi, e]
      rw [ed] at this
      have hin : p ∈ m.Map.take i := List.mem_take_iff_getElem.mpr ⟨k, by omega, e2⟩
      simp [hp.1, hin] at this
  constructor
  · refine okM_iff.mpr ⟨hs, by simpa using hn, by simpa using ht, fun i hi => ?_⟩
    dsimp only at hi
    rw [List.length_set] at hi
    have hEi := hE i hi
    unfold okE at hEi ⊢
    dsimp only
    by_cases e : i = j
    · subst e
      have e1 : (m.Map.set i p).getD i 0 = p := by simp [List.getD, hi]
      rw [e1, inR_iff.mpr (by omega)]
      have hnot : p ∉ (m.Map.set i p).take i := by
        rw [List.take_set, List.set_eq_of_length_le (by rw [List.length_take]; omega)]
        intro hin
        obtain ⟨k, hk, e2⟩ := List.mem_take_iff_getElem.mp hin
        exact other k (by omega) (by omega) e2
      simp [hnot, show ¬ p < 0 by omega]
    · have e1 : (m.Map.set j p).getD i 0 = m.Map.getD i 0 := by simp [List.getD, List.getElem?_set, Ne.symm e]
      have e2 : (m.Trimmed.set j t).getD i false = m.Trimmed.getD i false := by simp [List.getD, List.getElem?_set, Ne.symm e]
      rw [e1, e2]
      simp only [Bool.and_eq_true] at hEi ⊢
      refine ⟨hEi.1, hEi.2.1, ?_⟩
      have h3 := hEi.2.2
      simp only [Bool.not_eq_true', Bool.and_eq_false_iff, decide_eq_false_iff_not] at h3 ⊢
      rcases h3 with h3 | h3
      · exact .inl h3
      · refine .inr fun hin => ?_
        obtain ⟨k, hk, e4⟩ := List.mem_take_iff_getElem.mp hin
        rw [List.length_set] at hk
        rw [List.getElem_set] at e4
        split at e4
        · have := other i hi e
          have ed : m.Map.getD i 0 = m.Map[i] := by simp [List.getD, hi]
          rw [ed] at e4
          exact this e4.symm
        · exact h3 (List.mem_take_iff_getElem.mpr ⟨k, by omega, e4⟩)
  · have hin : p ∈ m.Map.set j p := List.mem_iff_getElem.mpr ⟨j, by simpa using hj, by simp⟩
    obtain ⟨k, e1, hk, e2, e3⟩ := ix_get (ix_mem.mpr hin)
    rw [e1]
    rw [List.length_set] at hk
    by_cases e : k = j
    · rw [e]
    · exfalso
      rw [List.getElem_set_ne (Ne.symm e)] at e2
      exact other k hk e e2
theorem pl_law (code : List Int) (hk : okL u8r code) : p_laws_FnFtlMap code = some true := by
  unfold p_laws_FnFtlMap
  rw [pl_big, callK_some]
  by_cases hl : (code.length : Int) > 1048576
  · rw [decide_eq_true hl, if_pos rfl]
  rw [decide_eq_false hl, if_neg (by decide)]
  obtain ⟨m, l, p, t, e, l1, l2⟩ := set_ok hk.2 (by omega)
  rw [e, callK_some]
  dsimp only
  rw [pl_iSet _ _ _ _ (by omega), callK_some, pl_sSet _ _ _ _ (by omega), callK_some, if_neg (by simp)]
  have hsame : p_spec_SameMap (setP m l p t).1 (setP m l p t).1 = some true := by
    refine sameM_self _ ?_ ?_ <;> (unfold setP; repeat' split) <;> simp [nilM] <;> omega
  rw [hsame, callK_some, if_pos rfl]
  by_cases h0 : (setP m l p t).2 = 0
  · rw [if_neg (by simpa using h0)]
    unfold setP at h0 ⊢
    by_cases hv : okM m = true
    · rw [if_pos hv] at h0 ⊢
      by_cases hl2 : inR l 0 ((m.Map.length : Int) - 1) = true
      · rw [if_pos hl2] at h0 ⊢
        by_cases hp2 : inR p 0 (m.Blocks * m.Pages - 1) = true
        · rw [if_pos hp2] at h0 ⊢
          by_cases hc : 0 ≤ ixOf m.Map p ∧ ixOf m.Map p ≠ l
          · rw [if_pos hc] at h0; simp at h0
          · rw [if_neg hc]
            have hl3 := inR_iff.mp hl2
            have hp3 := inR_iff.mp hp2
            obtain ⟨g1, g2⟩ := setP_ok (t := t) hv (l := l) (p := p) (by omega) (by omega) hc
            obtain ⟨hs, hn, ht, hE⟩ := okM_iff.mp hv
            dsimp only
            have eL : p_impl_LogicalAt ⟨m.Blocks, m.Pages, m.Map.set l.toNat p, m.Trimmed.set l.toNat t⟩ p = some (l, true) := by
              unfold p_impl_LogicalAt
              rw [pl_iV (by simp; omega), callK_some, g1, if_pos rfl, at_pl (by simp; omega) hp3.1, callK_some]
              dsimp only
              rw [g2, if_neg (by omega), callK_some]
            have eP : p_impl_PhysOf ⟨m.Blocks, m.Pages, m.Map.set l.toNat p, m.Trimmed.set l.toNat t⟩ l = some (if t = true then (0, false) else (p, true)) := by
              unfold p_impl_PhysOf p_impl_PageMap_phys p_impl_isIndex
              rw [pl_iV (by simp; omega), callK_some, g1, if_pos rfl, callK_some]
              dsimp only
              rw [List.length_set, wrap_sm _ (by omega) (by omega), if_pos hl2, getK_in hl3.1 (by simp; omega), getK_in hl3.1 (by simp; omega)]
              rw [List.getElem_set_self, List.getElem_set_self, if_neg (by omega)]
              cases t <;> rfl
            have hcount := count_ok g1
            cases t
            · rw [eL, callK_some, show p_impl_PhysOf _ l = some (p, true) from eP, callK_some]
              dsimp only
              rw [if_pos rfl, if_neg (by simp), if_neg (by decide), if_pos rfl, if_neg (by simp)]
              exact hcount
            · rw [eL, callK_some, show p_impl_PhysOf _ l = some (0, false) from eP, callK_some]
              dsimp only
              rw [if_pos rfl, if_neg (by simp), if_neg (by decide), if_neg (by decide)]
              exact hcount
        · rw [if_neg hp2] at h0; simp at h0
      · rw [if_neg hl2] at h0; simp at h0
    · rw [if_neg hv] at h0; simp at h0
  · rw [if_pos h0]
theorem f_law (code : List Int) (hk : okL u8r code) : callL E 6 [.d (.arr (code.map rU))] [] = some (BO true, []) := L_laws_FnFtlMap code (pl_law code hk)

end Go.Proofs.Ytjbddmmammgmjaa.T14

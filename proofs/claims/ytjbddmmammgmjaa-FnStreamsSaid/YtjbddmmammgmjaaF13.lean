/- FnStreams: what its functions come to, and the row; conditions: none. -/
import Derived.Test.YtjbddmmammgmjaaT13
import Derived.Test.YtjbddmmammgmjaaEz
import Derived.Test.YtjbddmmammgmjaaRows
import Derived.WalkKit
import Derived.ProofKit
import Derived.OpenShut
import Derived.ShutString
import Derived.ChangeOld
import Derived.Below
import Derived.SizedLaws
namespace Go.Proofs.Ytjbddmmammgmjaa.T13
open Go.Proofs.YtjbddmmammgmjaaE
set_option maxRecDepth 100000
set_option linter.unusedVariables false
set_option linter.unusedSimpArgs false

noncomputable def p_spec_l00In (a_0 : Int) (a_1 : Int) (a_2 : Int) : Option Bool :=
  if a_0 ≥ a_1 then
    some (decide (a_0 ≤ a_2))
  else
    some false

theorem L_spec_l00In (a_0 : Int) (a_1 : Int) (a_2 : Int) {r : Bool} (h : p_spec_l00In a_0 a_1 a_2 = some r) : callL E 112 [IN a_0, IN a_1, IN a_2] ([] : Fo) = some (BO r, ([] : Fo)) := by
  unfold p_spec_l00In at h
  refine callW (fu := Try.f112) rfl rfl rfl NN ?_
  intro lp cl hlp hcl
  conv => lhs; whnf
  cases hb1 : (decide (a_0 ≥ a_1))
  · replace h := ifF h (decF hb1)
    conv => lhs; whnf
    try (rw [hb1]; conv => lhs; whnf)
    try (rw [hb1]; conv => lhs; whnf)
    try (rw [hb1]; conv => lhs; whnf)
    obtain rfl := Option.some.inj h
    show _ = _
    kernel_rfl
  · replace h := ifT h (decT hb1)
    conv => lhs; whnf
    try (rw [hb1]; conv => lhs; whnf)
    try (rw [hb1]; conv => lhs; whnf)
    try (rw [hb1]; conv => lhs; whnf)
    obtain rfl := Option.some.inj h
    show _ = _
    kernel_rfl
theorem pl_l00In (n lo hi : Int) : p_spec_l00In n lo hi = some (inR n lo hi) := by
  unfold p_spec_l00In inR
  split
  · rename_i h; simp [h]
  · rename_i h; simp [h]


noncomputable def p_impl_within (a_0 : Int) (a_1 : Int) (a_2 : Int) : Option Bool :=
  if a_0 ≥ a_1 then
    some (decide (a_0 ≤ a_2))
  else
    some false

theorem L_impl_within (a_0 : Int) (a_1 : Int) (a_2 : Int) {r : Bool} (h : p_impl_within a_0 a_1 a_2 = some r) : callL E 107 [IN a_0, IN a_1, IN a_2] ([] : Fo) = some (BO r, ([] : Fo)) := by
  unfold p_impl_within at h
  refine callW (fu := Try.f107) rfl rfl rfl NN ?_
  intro lp cl hlp hcl
  conv => lhs; whnf
  cases hb1 : (decide (a_0 ≥ a_1))
  · replace h := ifF h (decF hb1)
    conv => lhs; whnf
    try (rw [hb1]; conv => lhs; whnf)
    try (rw [hb1]; conv => lhs; whnf)
    try (rw [hb1]; conv => lhs; whnf)
    obtain rfl := Option.some.inj h
    show _ = _
    kernel_rfl
  · replace h := ifT h (decT hb1)
    conv => lhs; whnf
    try (rw [hb1]; conv => lhs; whnf)
    try (rw [hb1]; conv => lhs; whnf)
    try (rw [hb1]; conv => lhs; whnf)
    obtain rfl := Option.some.inj h
    show _ = _
    kernel_rfl
theorem pl_within (n lo hi : Int) : p_impl_within n lo hi = some (inR n lo hi) := by
  unfold p_impl_within inR
  split
  · rename_i h; simp [h]
  · rename_i h; simp [h]



structure Sl00Src where
  Code : List Int
  At : Int
  Seed : Int
def rSl00Src (x : Sl00Src) : List D := [.arr (x.Code.map rU), dI x.At, .lit (.int .u64 x.Seed)]

noncomputable def p_spec_l00From (a_0 : List Int) : Option Sl00Src :=
  some (⟨a_0, 0, 0⟩ : Sl00Src)

theorem L_spec_l00From (a_0 : List Int) {r : Sl00Src} (h : p_spec_l00From a_0 = some r) : callL E 103 [.d (.arr (a_0.map rU))] ([] : Fo) = some (.bp 0 0, ([some (.box [.d (.arr (r.Code.map rU)), IN r.At, .d (.lit (.int .u64 r.Seed))])] : Fo)) := by
  unfold p_spec_l00From at h
  refine callW (fu := Try.f103) rfl rfl rfl NN ?_
  intro lp cl hlp hcl
  conv => lhs; whnf
  obtain rfl := Option.some.inj h
  show _ = _
  kernel_rfl

noncomputable def p_spec_l00Src_next (a_0 : Sl00Src) : Option (Int × Sl00Src) :=
  if a_0.At < (a_0.Code.length : Int) then
    getK a_0.Code a_0.At fun x2 =>
    if (IntKind.i64.wrap (a_0.At + 1)) ≤ (a_0.Code.length : Int) then
      some ((IntKind.i64.wrap x2), (⟨a_0.Code, (IntKind.i64.wrap (a_0.At + 1)), (IntKind.u64.wrap ((IntKind.u64.wrap ((IntKind.u64.wrap (a_0.Seed * 6364136223846793005)) + (IntKind.u64.wrap (IntKind.i64.wrap x2)))) + 1442695040888963407))⟩ : Sl00Src))
    else
      some ((IntKind.i64.wrap (andK .u64 (Int.fdiv (IntKind.u64.wrap ((IntKind.u64.wrap ((IntKind.u64.wrap (a_0.Seed * 6364136223846793005)) + (IntKind.u64.wrap (IntKind.i64.wrap x2)))) + 1442695040888963407)) (2 ^ (min (Int.toNat 40) IntKind.u64.bits))) 255)), (⟨a_0.Code, (IntKind.i64.wrap (a_0.At + 1)), (IntKind.u64.wrap ((IntKind.u64.wrap ((IntKind.u64.wrap (a_0.Seed * 6364136223846793005)) + (IntKind.u64.wrap (IntKind.i64.wrap x2)))) + 1442695040888963407))⟩ : Sl00Src))
  else
    if (IntKind.i64.wrap (a_0.At + 1)) ≤ (a_0.Code.length : Int) then
      some (0, (⟨a_0.Code, (IntKind.i64.wrap (a_0.At + 1)), (IntKind.u64.wrap ((IntKind.u64.wrap ((IntKind.u64.wrap (a_0.Seed * 6364136223846793005)) + (IntKind.u64.wrap 0))) + 1442695040888963407))⟩ : Sl00Src))
    else
      some ((IntKind.i64.wrap (andK .u64 (Int.fdiv (IntKind.u64.wrap ((IntKind.u64.wrap ((IntKind.u64.wrap (a_0.Seed * 6364136223846793005)) + (IntKind.u64.wrap 0))) + 1442695040888963407)) (2 ^ (min (Int.toNat 40) IntKind.u64.bits))) 255)), (⟨a_0.Code, (IntKind.i64.wrap (a_0.At + 1)), (IntKind.u64.wrap ((IntKind.u64.wrap ((IntKind.u64.wrap (a_0.Seed * 6364136223846793005)) + (IntKind.u64.wrap 0))) + 1442695040888963407))⟩ : Sl00Src))

theorem L_spec_l00Src_next (a_0 : Sl00Src) {r : (Int × Sl00Src)} (h : p_spec_l00Src_next a_0 = some r) : callL E 217 [.bp 0 0] ([some (.box [.d (.arr (a_0.Code.map rU)), IN a_0.At, .d (.lit (.int .u64 a_0.Seed))])] : Fo) = some (IN r.1, ([some (.box [.d (.arr (r.2.Code.map rU)), IN r.2.At, .d (.lit (.int .u64 r.2.Seed))])] : Fo)) := by
  unfold p_spec_l00Src_next at h
  refine callW (fu := Try.f217) rfl rfl rfl NN ?_
  intro lp cl hlp hcl
  conv => lhs; whnf
  try rw [len_of (l := a_0.Code) (r := rU)]
  cases hb1 : (decide (a_0.At < (a_0.Code.length : Int)))
  · replace h := ifF h (decF hb1)
    conv => lhs; whnf
    try rw [len_of (l := a_0.Code) (r := rU)]
    cases hb4 : (decide ((IntKind.i64.wrap (a_0.At + 1)) ≤ (a_0.Code.length : Int)))
    · replace h := ifF h (decF hb4)
      conv => lhs; whnf
      obtain rfl := Option.some.inj h
      show _ = _
      kernel_rfl
    · replace h := ifT h (decT hb4)
      conv => lhs; whnf
      obtain rfl := Option.some.inj h
      show _ = _
      kernel_rfl
  · replace h := ifT h (decT hb1)
    conv => lhs; whnf
    obtain ⟨x2, hq_x2, hx_x2', h⟩ := getK_inv h
    have hx_x2 := get_of (r := rU) hx_x2'
    try (rw [decide_eq_true hq_x2]; conv => lhs; whnf)
    rw [hx_x2]
    conv => lhs; whnf
    rw [hx_x2]
    conv => lhs; whnf
    try rw [len_of (l := a_0.Code) (r := rU)]
    cases hb3 : (decide ((IntKind.i64.wrap (a_0.At + 1)) ≤ (a_0.Code.length : Int)))
    · replace h := ifF h (decF hb3)
      conv => lhs; whnf
      obtain rfl := Option.some.inj h
      show _ = _
      kernel_rfl
    · replace h := ifT h (decT hb3)
      conv => lhs; whnf
      obtain rfl := Option.some.inj h
      show _ = _
      kernel_rfl

noncomputable def p_spec_l00Src_pick (a_0 : Int) (a_1 : Sl00Src) : Option (Int × Sl00Src) :=
  if a_0 ≤ 1 then
    some (0, a_1)
  else
    callK (p_spec_l00Src_next a_1) fun y2 =>
    if a_0 > 200 then
      callK (p_spec_l00Src_next y2.2) fun y4 =>
      grd (a_0 ≠ 0) <|
      some ((Int.tmod (IntKind.i64.wrap ((IntKind.i64.wrap (y2.1 * 256)) + y4.1)) a_0), y4.2)
    else
      grd (a_0 ≠ 0) <|
      some ((Int.tmod y2.1 a_0), y2.2)

theorem L_spec_l00Src_pick (a_0 : Int) (a_1 : Sl00Src) {r : (Int × Sl00Src)} (h : p_spec_l00Src_pick a_0 a_1 = some r) : callL E 122 [.bp 0 0, IN a_0] ([some (.box [.d (.arr (a_1.Code.map rU)), IN a_1.At, .d (.lit (.int .u64 a_1.Seed))])] : Fo) = some (IN r.1, ([some (.box [.d (.arr (r.2.Code.map rU)), IN r.2.At, .d (.lit (.int .u64 r.2.Seed))])] : Fo)) := by
  unfold p_spec_l00Src_pick at h
  refine callW (fu := Try.f122) rfl rfl rfl NN ?_
  intro lp cl hlp hcl
  conv => lhs; whnf
  cases hb1 : (decide (a_0 ≤ 1))
  · replace h := ifF h (decF hb1)
    conv => lhs; whnf
    obtain ⟨y2, h_y2, h⟩ := callK_inv h
    rw [cl_eq hcl (L_spec_l00Src_next a_1 h_y2)]
    rotate_left
    · show _ = _
      kernel_rfl
    · show _ = _
      kernel_rfl
    conv => lhs; whnf
    cases hb3 : (decide (a_0 > 200))
    · replace h := ifF h (decF hb3)
      conv => lhs; whnf
      obtain ⟨hg5, h⟩ := grd_inv h
      rw [rem_run _ _ _ _ hg5]
      conv => lhs; whnf
      obtain rfl := Option.some.inj h
      show _ = _
      kernel_rfl
    · replace h := ifT h (decT hb3)
      conv => lhs; whnf
      obtain ⟨y4, h_y4, h⟩ := callK_inv h
      rw [cl_eq hcl (L_spec_l00Src_next y2.2 h_y4)]
      rotate_left
      · show _ = _
        kernel_rfl
      · show _ = _
        kernel_rfl
      conv => lhs; whnf
      obtain ⟨hg6, h⟩ := grd_inv h
      rw [rem_run _ _ _ _ hg6]
      conv => lhs; whnf
      obtain rfl := Option.some.inj h
      show _ = _
      kernel_rfl
  · replace h := ifT h (decT hb1)
    conv => lhs; whnf
    obtain rfl := Option.some.inj h
    show _ = _
    kernel_rfl
/-- A source of choices from which as many may still be drawn. -/
structure SrcOk (b : Int) (s : Sl00Src) : Prop where
  code : ∀ x ∈ s.Code, 0 ≤ x ∧ x ≤ 255
  len : s.Code.length ≤ 1048576
  lo : 0 ≤ s.At
  hi : s.At + b ≤ 4611686018427387904
theorem SrcOk.le {b c : Int} {s : Sl00Src} (h : SrcOk b s) (hc : c ≤ b) : SrcOk c s := ⟨h.1, h.2, h.3, by have := h.4; omega⟩
theorem nxV_in (sd : Int) : 0 ≤ IntKind.i64.wrap (andK .u64 sd 255) ∧ IntKind.i64.wrap (andK .u64 sd 255) ≤ 255 := by
  unfold andK
  generalize BitVec.ofInt IntKind.u64.bits sd = a
  have h1 : (a &&& BitVec.ofInt IntKind.u64.bits 255).toNat ≤ 255 := by
    rw [BitVec.toNat_and]
    exact Nat.le_trans Nat.and_le_right (by decide)
  generalize (a &&& BitVec.ofInt IntKind.u64.bits 255).toNat = m at h1
  have e1 : IntKind.u64.wrap (m : Int) = m := by unfold IntKind.wrap; simp [IntKind.signed, IntKind.bits]; omega
  rw [e1, wrap_sm _ (by omega) (by omega)]
  omega
theorem next_ok {b : Int} {s : Sl00Src} (hb : 0 ≤ b) (h : SrcOk (b + 1) s) : ∃ v s', p_spec_l00Src_next s = some (v, s') ∧ (0 ≤ v ∧ v ≤ 255) ∧ SrcOk b s' := by
  obtain ⟨h1, h2, h3, h4⟩ := h
  have hw : IntKind.i64.wrap (s.At + 1) = s.At + 1 := wrap_sm _ (by omega) (by omega)
  unfold p_spec_l00Src_next
  rw [hw]
  split
  · rename_i hlt
    rw [getK_in h3 hlt]
    have hb := h1 _ (List.getElem_mem (show s.At.toNat < s.Code.length by omega))
    rw [if_pos (by omega)]
    exact ⟨_, _, rfl, by rw [wrap_sm _ (by omega) (by omega)]; exact hb, h1, h2, by show 0 ≤ s.At + 1; omega, by show s.At + 1 + b ≤ _; omega⟩
  · rename_i hlt
    rw [if_neg (by omega)]
    exact ⟨_, _, rfl, nxV_in _, h1, h2, by show 0 ≤ s.At + 1; omega, by show s.At + 1 + b ≤ _; omega⟩
theorem pick_ok {b : Int} {s : Sl00Src} (m : Int) (hb : 0 ≤ b) (h : SrcOk (b + 2) s) : ∃ r s', p_spec_l00Src_pick m s = some (r, s') ∧ (0 ≤ r ∧ (1 < m → r < m) ∧ (m ≤ 1 → r = 0)) ∧ SrcOk b s' := by
  unfold p_spec_l00Src_pick
  split
  · rename_i hm
    exact ⟨0, s, rfl, ⟨by omega, fun h => by omega, fun _ => rfl⟩, h.le (by omega)⟩
  · rename_i hm
    obtain ⟨v1, s1, e1, b1, o1⟩ := next_ok (b := b + 1) (by omega) (h.le (by omega))
    rw [e1, callK_some]
    split
    · obtain ⟨v2, s2, e2, b2, o2⟩ := next_ok hb o1
      rw [e2, callK_some, grd_pos (by omega)]
      have w1 : IntKind.i64.wrap (v1 * 256) = v1 * 256 := wrap_sm _ (by omega) (by omega)
      have w2 : IntKind.i64.wrap (v1 * 256 + v2) = v1 * 256 + v2 := wrap_sm _ (by omega) (by omega)
      refine ⟨_, _, rfl, ?_, o2⟩
      show 0 ≤ Int.tmod (IntKind.i64.wrap (IntKind.i64.wrap (v1 * 256) + v2)) m ∧ _
      rw [w1, w2]
      exact ⟨Int.tmod_nonneg _ (by omega), fun _ => Int.tmod_lt_of_pos _ (by omega), fun h3 => by omega⟩
    · rw [grd_pos (by omega)]
      exact ⟨_, _, rfl, ⟨Int.tmod_nonneg _ b1.1, fun _ => Int.tmod_lt_of_pos _ (by omega), fun h3 => by omega⟩, o1.le (by omega)⟩
theorem from_ok {code : List Int} (h : ∀ x ∈ code, 0 ≤ x ∧ x ≤ 255) (hl : code.length ≤ 1048576) : ∃ s, p_spec_l00From code = some s ∧ SrcOk 1099511627776 s :=
  ⟨_, rfl, h, hl, by show (0 : Int) ≤ 0; omega, by show (0 : Int) + 1099511627776 ≤ _; omega⟩

noncomputable def p_spec_l00Src_among (a_0 : List Int) (a_1 : Sl00Src) : Option (Int × Sl00Src) :=
  callK (p_spec_l00Src_pick (a_0.length : Int) a_1) fun y1 =>
  getK a_0 y1.1 fun x2 =>
  some (x2, y1.2)

theorem L_spec_l00Src_among (a_0 : List Int) (a_1 : Sl00Src) {r : (Int × Sl00Src)} (h : p_spec_l00Src_among a_0 a_1 = some r) : callL E 105 [.bp 0 0, .d (.arr (a_0.map rI))] ([some (.box [.d (.arr (a_1.Code.map rU)), IN a_1.At, .d (.lit (.int .u64 a_1.Seed))])] : Fo) = some (IN r.1, ([some (.box [.d (.arr (r.2.Code.map rU)), IN r.2.At, .d (.lit (.int .u64 r.2.Seed))])] : Fo)) := by
  unfold p_spec_l00Src_among at h
  refine callW (fu := Try.f105) rfl rfl rfl NN ?_
  intro lp cl hlp hcl
  conv => lhs; whnf
  try rw [len_of (l := a_0) (r := rI)]
  obtain ⟨y1, h_y1, h⟩ := callK_inv h
  rw [cl_eq hcl (L_spec_l00Src_pick (a_0.length : Int) a_1 h_y1)]
  rotate_left
  · show _ = _
    kernel_rfl
  · show _ = _
    kernel_rfl
  conv => lhs; whnf
  obtain ⟨x2, hq_x2, hx_x2', h⟩ := getK_inv h
  have hx_x2 := get_of (r := rI) hx_x2'
  try (rw [decide_eq_true hq_x2]; conv => lhs; whnf)
  rw [hx_x2]
  conv => lhs; whnf
  rw [hx_x2]
  conv => lhs; whnf
  obtain rfl := Option.some.inj h
  show _ = _
  kernel_rfl
theorem among_ok {b : Int} {s : Sl00Src} (l : List Int) (hl : 0 < l.length) (hb : 0 ≤ b) (h : SrcOk (b + 2) s) : ∃ r s', p_spec_l00Src_among l s = some (r, s') ∧ r ∈ l ∧ SrcOk b s' := by
  obtain ⟨r, s1, e1, ⟨b1, b2, b3⟩, o1⟩ := pick_ok (l.length : Int) hb h
  unfold p_spec_l00Src_among
  have hr : r < (l.length : Int) := by
    rcases Nat.lt_or_ge 1 l.length with h | h
    · exact b2 (by omega)
    · have := b3 (by omega); omega
  rw [e1, callK_some, getK_in b1 hr]
  exact ⟨_, _, rfl, List.getElem_mem _, o1⟩

noncomputable def p_spec_l00Src_one (a_0 : Int) (a_1 : Sl00Src) : Option (Bool × Sl00Src) :=
  callK (p_spec_l00Src_pick a_0 a_1) fun y1 =>
  some ((y1.1 == 0), y1.2)

theorem L_spec_l00Src_one (a_0 : Int) (a_1 : Sl00Src) {r : (Bool × Sl00Src)} (h : p_spec_l00Src_one a_0 a_1 = some r) : callL E 130 [.bp 0 0, IN a_0] ([some (.box [.d (.arr (a_1.Code.map rU)), IN a_1.At, .d (.lit (.int .u64 a_1.Seed))])] : Fo) = some (BO r.1, ([some (.box [.d (.arr (r.2.Code.map rU)), IN r.2.At, .d (.lit (.int .u64 r.2.Seed))])] : Fo)) := by
  unfold p_spec_l00Src_one at h
  refine callW (fu := Try.f130) rfl rfl rfl NN ?_
  intro lp cl hlp hcl
  conv => lhs; whnf
  obtain ⟨y1, h_y1, h⟩ := callK_inv h
  rw [cl_eq hcl (L_spec_l00Src_pick a_0 a_1 h_y1)]
  rotate_left
  · show _ = _
    kernel_rfl
  · show _ = _
    kernel_rfl
  conv => lhs; whnf
  obtain rfl := Option.some.inj h
  show _ = _
  kernel_rfl
theorem one_ok {b : Int} {s : Sl00Src} (m : Int) (hb : 0 ≤ b) (h : SrcOk (b + 2) s) : ∃ r s', p_spec_l00Src_one m s = some (r, s') ∧ SrcOk b s' := by
  obtain ⟨r, s1, e1, _, o1⟩ := pick_ok m hb h
  unfold p_spec_l00Src_one
  rw [e1, callK_some]
  exact ⟨_, _, rfl, o1⟩

noncomputable def p_laws_c2Big (a_0 : List Int) (a_1 : List Int) : Option Bool :=
  if (a_0.length : Int) > 1048576 then
    some true
  else
    some (decide ((a_1.length : Int) > 1048576))

theorem L_laws_c2Big (a_0 : List Int) (a_1 : List Int) {r : Bool} (h : p_laws_c2Big a_0 a_1 = some r) : callL E 19 [.d (.arr (a_0.map rU)), .d (.arr (a_1.map rU))] ([] : Fo) = some (BO r, ([] : Fo)) := by
  unfold p_laws_c2Big at h
  refine callW (fu := Try.f19) rfl rfl rfl NN ?_
  intro lp cl hlp hcl
  conv => lhs; whnf
  try rw [len_of (l := a_0) (r := rU)]
  cases hb1 : (decide ((a_0.length : Int) > 1048576))
  · replace h := ifF h (decF hb1)
    conv => lhs; whnf
    try (rw [hb1]; conv => lhs; whnf)
    try rw [len_of (l := a_1) (r := rU)]
    try (rw [hb1]; conv => lhs; whnf)
    try (rw [hb1]; conv => lhs; whnf)
    obtain rfl := Option.some.inj h
    show _ = _
    kernel_rfl
  · replace h := ifT h (decT hb1)
    conv => lhs; whnf
    try (rw [hb1]; conv => lhs; whnf)
    try (rw [hb1]; conv => lhs; whnf)
    try (rw [hb1]; conv => lhs; whnf)
    obtain rfl := Option.some.inj h
    show _ = _
    kernel_rfl
theorem pl_big (code : List Int) : p_laws_c2Big code ([] : List Int) = some (decide ((code.length : Int) > 1048576)) := by
  unfold p_laws_c2Big
  split
  · rename_i h; rw [decide_eq_true h]
  · rename_i h; rw [decide_eq_false h]; rfl

noncomputable def p_spec_l13New (a_0 : Int) : Option (Int × (List Int)) :=
  grd (mkOk a_0 a_0 8 1 = true) <|
  some (0, (List.replicate (Int.toNat a_0) (0 : Int)))

theorem L_spec_l13New (a_0 : Int) {r : (Int × (List Int))} (h : p_spec_l13New a_0 = some r) : callL E 216 [IN a_0] ([] : Fo) = some (.agg [.sl 0, IN r.1], ([some (.arr 2 1 (r.2.map rI))] : Fo)) := by
  unfold p_spec_l13New at h
  refine callW (fu := Try.f216) rfl rfl rfl NN ?_
  intro lp cl hlp hcl
  conv => lhs; whnf
  obtain ⟨hg1, h⟩ := grd_inv h
  rw [mk_eq hg1 ?h1 ?h2 ?h3 ?h4]
  case h1 => exact rfl
  case h2 => exact rfl
  case h3 => exact rfl
  case h4 => exact rfl
  conv => lhs; whnf
  first | (rw [rep_of (r := rI) (x := (0 : Int)) ?hh]; case hh => exact rfl) | skip
  obtain rfl := Option.some.inj h
  show _ = _
  kernel_rfl

noncomputable def p_spec_l00Own (a_0 : List Int) : Option Unit :=
  grd (appOk (0 + a_0.length) 8 = true) <|
  some ()

theorem L_spec_l00Own (a_0 : List Int) {r : Unit} (h : p_spec_l00Own a_0 = some r) : callL E 219 [.sl 0] ([some (.arr 2 1 (a_0.map rI))] : Fo) = some (.sl 1, ([some (.arr 2 1 (a_0.map rI)), some (.arr 2 1 (a_0.map rI))] : Fo)) := by
  unfold p_spec_l00Own at h
  refine callW (fu := Try.f219) rfl rfl rfl NN ?_
  intro lp cl hlp hcl
  conv => lhs; whnf
  obtain ⟨hg1, h⟩ := grd_inv h
  rw [app_eq hg1 ?h1 ?h2]
  case h1 => first | exact rfl | (simp only [List.length_map, List.length_cons, List.length_nil]; done) | (rw [List.length_map]; rfl)
  case h2 => exact rfl
  conv => lhs; whnf
  rw [allLen_map rI _ rI_len]
  conv => lhs; whnf
  first | (rw [nil_app_of (r := rI) (m := a_0) ?hh]; case hh => exact rfl) | skip
  obtain rfl := Option.some.inj h
  show _ = _
  kernel_rfl

noncomputable def p_spec_l00Min (a_0 : Int) (a_1 : Int) : Option Int :=
  if a_0 < a_1 then
    some a_0
  else
    some a_1

theorem L_spec_l00Min (a_0 : Int) (a_1 : Int) {r : Int} (h : p_spec_l00Min a_0 a_1 = some r) : callL E 220 [IN a_0, IN a_1] ([] : Fo) = some (IN r, ([] : Fo)) := by
  unfold p_spec_l00Min at h
  refine callW (fu := Try.f220) rfl rfl rfl NN ?_
  intro lp cl hlp hcl
  conv => lhs; whnf
  cases hb1 : (decide (a_0 < a_1))
  · replace h := ifF h (decF hb1)
    conv => lhs; whnf
    obtain rfl := Option.some.inj h
    show _ = _
    kernel_rfl
  · replace h := ifT h (decT hb1)
    conv => lhs; whnf
    obtain rfl := Option.some.inj h
    show _ = _
    kernel_rfl

noncomputable def p_spec_l13Decay (a_0 : Int) (a_1 : List Int) : Option (Int × (List Int)) :=
  grd (a_1.length < 4611686018427387904) <|
  forK a_1 (fun (i5 : Nat) x8 (v6 : List Int) (nx7 : (List Int) → Option _) =>
    grd (appOk (v6.length + 1) 8 = true) <|
    nx7 (v6 ++ ([(IntKind.i64.wrap (Int.tdiv x8 2))] : List Int))) ([] : List Int) (fun (v6 : List Int) =>
    some (0, v6))

theorem L_spec_l13Decay (a_0 : Int) (a_1 : List Int) {r : (Int × (List Int))} (h : p_spec_l13Decay a_0 a_1 = some r) : callL E 221 [.bp 0 0] ([some (.box [.sl 1, IN a_0]), some (.arr 2 1 (a_1.map rI))] : Fo) = some (.agg [.sl 2, IN r.1], ([some (.box [.sl 1, IN a_0]), some (.arr 2 1 (a_1.map rI)), some (.arr 2 1 (r.2.map rI))] : Fo)) := by
  unfold p_spec_l13Decay at h
  refine callW (fu := Try.f221) rfl rfl rfl NN ?_
  intro lp cl hlp hcl
  conv => lhs; whnf
  obtain ⟨hl_i5, h⟩ := grd_inv h
  refine loop_for hlp (l := a_1) hl_i5 (fun (i5 : Nat) (v6 : List Int) => ([.bp 0 0, .dead, .bp 2 0, .bp 3 0, IN (i5 : Int)] ++ List.replicate 24 .dead : List V)) (fun (i5 : Nat) (v6 : List Int) => ([some (.box [.sl 1, IN a_0]), some (.arr 2 1 (a_1.map rI)), some (.box [.d (.arr (([] : List Int).map rI)), IN 0]), some (.box [.sl 4, IN 0]), some (.arr 2 1 (v6.map rI))] : Fo)) (fun (r : (Int × (List Int))) => ((.agg [.sl 2, IN r.1] : V), ([some (.box [.sl 1, IN a_0]), some (.arr 2 1 (a_1.map rI)), some (.arr 2 1 (r.2.map rI))] : Fo))) ?_ ?_ ([] : List Int) _ (fun kk => by kernel_rfl) h
  · clear h
    rintro next_nx7 nx7 i5 hi_i5 hnx7 v6 r h
    try dsimp only at h
    have hn_i5 : i5 < 4611686018427387904 := by omega
    have hx_x8 := get_map rI a_1 i5 hi_i5
    generalize a_1[i5] = x8 at h hx_x8
    have hd_i5 : (decide ((i5 : Int) < (a_1.length : Int))) = true := decide_eq_true (by omega)
    conv => lhs; whnf
    try rw [len_of (l := a_1) (r := rI)]
    rw [hd_i5]
    conv => lhs; whnf
    try (rw [decide_eq_true hq_x8]; conv => lhs; whnf)
    rw [hx_x8]
    conv => lhs; whnf
    rw [hx_x8]
    conv => lhs; whnf
    try (rw [quo_run _ _ _ 2 (by decide)]; conv => lhs; whnf)
    conv => lhs; whnf
    obtain ⟨hg9, h⟩ := grd_inv h
    rw [app_eq hg9 ?h1 ?h2]
    case h1 => first | exact rfl | (simp only [List.length_map, List.length_cons, List.length_nil]; done) | (rw [List.length_map]; rfl)
    case h2 => exact rfl
    conv => lhs; whnf
    first | (rw [map_app_of (r := rI) (l := v6) (m := ([(IntKind.i64.wrap (Int.tdiv x8 2))] : List Int)) ?hh]; case hh => exact rfl) | skip
    rw [wrap_nat i5 (by have := hn_i5; omega)]
    exact hnx7 _ _ _ _ (fun kk => by kernel_rfl) h
  · clear h
    rintro next_nx7 v6 r h
    try dsimp only at h
    have hd_i5 : (decide ((a_1.length : Int) < (a_1.length : Int))) = false := decide_eq_false (by omega)
    conv => lhs; whnf
    try rw [len_of (l := a_1) (r := rI)]
    rw [hd_i5]
    conv => lhs; whnf
    obtain rfl := Option.some.inj h
    show _ = _
    kernel_rfl

noncomputable def p_spec_l13Note (a_0 : Int) (a_1 : Int) (a_2 : List Int) : Option (Int × (List Int)) :=
  callK (p_spec_l00Own a_2) fun y1 =>
  getK a_2 a_0 fun x2 =>
  callK (p_spec_l00Min (IntKind.i64.wrap (x2 + 1)) 1000000) fun y3 =>
  if (IntKind.i64.wrap (a_1 + 1)) = 16 then
    callK (p_spec_l13Decay (IntKind.i64.wrap (a_1 + 1)) (a_2.set (Int.toNat a_0) y3)) fun y5 =>
    some (y5.1, y5.2)
  else
    some ((IntKind.i64.wrap (a_1 + 1)), (a_2.set (Int.toNat a_0) y3))

theorem L_spec_l13Note (a_0 : Int) (a_1 : Int) (a_2 : List Int) {r : (Int × (List Int))} (h : p_spec_l13Note a_0 a_1 a_2 = some r) : callL E 126 [.bp 0 0, IN a_0] ([some (.box [.sl 1, IN a_1]), some (.arr 2 1 (a_2.map rI))] : Fo) = some (.agg [.sl 2, IN r.1], ([some (.box [.sl 1, IN a_1]), some (.arr 2 1 (a_2.map rI)), some (.arr 2 1 (r.2.map rI))] : Fo)) := by
  unfold p_spec_l13Note at h
  refine callW (fu := Try.f126) rfl rfl rfl NN ?_
  intro lp cl hlp hcl
  conv => lhs; whnf
  obtain ⟨y1, h_y1, h⟩ := callK_inv h
  rw [cl_eq hcl (L_spec_l00Own a_2 h_y1)]
  rotate_left
  · show _ = _
    kernel_rfl
  · show _ = _
    kernel_rfl
  conv => lhs; whnf
  obtain ⟨x2, hq_x2, hx_x2', h⟩ := getK_inv h
  have hx_x2 := get_of (r := rI) hx_x2'
  try (rw [decide_eq_true hq_x2]; conv => lhs; whnf)
  rw [hx_x2]
  conv => lhs; whnf
  rw [hx_x2]
  conv => lhs; whnf
  obtain ⟨y3, h_y3, h⟩ := callK_inv h
  rw [cl_eq hcl (L_spec_l00Min (IntKind.i64.wrap (x2 + 1)) 1000000 h_y3)]
  rotate_left
  · show _ = _
    kernel_rfl
  · show _ = _
    kernel_rfl
  conv => lhs; whnf
  try (rw [decide_eq_true hq_x2]; conv => lhs; whnf)
  rw [hx_x2]
  conv => lhs; whnf
  rw [hx_x2]
  conv => lhs; whnf
  first | (rw [map_set_of (r := rI) (l := a_2) (x := y3) ?hh]; case hh => exact rfl) | skip
  cases hb4 : ((IntKind.i64.wrap (a_1 + 1)) == 16)
  · replace h := ifF h (beqF hb4)
    conv => lhs; whnf
    obtain rfl := Option.some.inj h
    show _ = _
    kernel_rfl
  · replace h := ifT h (beqT hb4)
    conv => lhs; whnf
    obtain ⟨y5, h_y5, h⟩ := callK_inv h
    rw [cl_eq hcl (L_spec_l13Decay (IntKind.i64.wrap (a_1 + 1)) (a_2.set (Int.toNat a_0) y3) h_y5)]
    rotate_left
    · show _ = _
      kernel_rfl
    · show _ = _
      kernel_rfl
    conv => lhs; whnf
    obtain rfl := Option.some.inj h
    show _ = _
    kernel_rfl

noncomputable def p_spec_l00Src_among' (a_0 : Sl00Src) (a_1 : List Int) : Option (Int × Sl00Src) :=
  callK (p_spec_l00Src_pick (a_1.length : Int) a_0) fun y1 =>
  getK a_1 y1.1 fun x2 =>
  some (x2, y1.2)

theorem L_spec_l00Src_among' (a_0 : Sl00Src) (a_1 : List Int) {r : (Int × Sl00Src)} (h : p_spec_l00Src_among' a_0 a_1 = some r) : callL E 105 [.bp 0 0, .sl 1] ([some (.box [.d (.arr (a_0.Code.map rU)), IN a_0.At, .d (.lit (.int .u64 a_0.Seed))]), some (.arr 2 1 (a_1.map rI))] : Fo) = some (IN r.1, ([some (.box [.d (.arr (r.2.Code.map rU)), IN r.2.At, .d (.lit (.int .u64 r.2.Seed))]), some (.arr 2 1 (a_1.map rI))] : Fo)) := by
  unfold p_spec_l00Src_among' at h
  refine callW (fu := Try.f105) rfl rfl rfl NN ?_
  intro lp cl hlp hcl
  conv => lhs; whnf
  try rw [len_of (l := a_1) (r := rI)]
  obtain ⟨y1, h_y1, h⟩ := callK_inv h
  rw [cl_eq hcl (L_spec_l00Src_pick (a_1.length : Int) a_0 h_y1)]
  rotate_left
  · show _ = _
    kernel_rfl
  · show _ = _
    kernel_rfl
  conv => lhs; whnf
  obtain ⟨x2, hq_x2, hx_x2', h⟩ := getK_inv h
  have hx_x2 := get_of (r := rI) hx_x2'
  try (rw [decide_eq_true hq_x2]; conv => lhs; whnf)
  rw [hx_x2]
  conv => lhs; whnf
  rw [hx_x2]
  conv => lhs; whnf
  obtain rfl := Option.some.inj h
  show _ = _
  kernel_rfl

noncomputable def p_spec_l13Draw (a_0 : Sl00Src) : Option (Int × Sl00Src × (List Int)) :=
  callK (p_spec_l00Src_pick 8 a_0) fun y1 =>
  callK (p_spec_l13New (IntKind.i64.wrap (1 + y1.1))) fun y2 =>
  callK (p_spec_l00Src_pick (y2.2.length : Int) y1.2) fun y3 =>
  callK (p_spec_l00Src_pick 40 y3.2) fun y4 =>
  iterK (fun ((v5, v6, v7, v8) : (Int × Sl00Src × Int × (List Int))) (nx9 : (Int × Sl00Src × Int × (List Int)) → Option _) =>
    if v5 > 0 then
      callK (p_spec_l00Src_pick (v8.length : Int) v6) fun y11 =>
      callK (p_spec_l00Src_one 2 y11.2) fun y12 =>
      if y12.1 = true then
        callK (p_spec_l13Note y3.1 v7 v8) fun y14 =>
        nx9 ((IntKind.i64.wrap (v5 - 1)), y12.2, y14.1, y14.2)
      else
        callK (p_spec_l13Note y11.1 v7 v8) fun y15 =>
        nx9 ((IntKind.i64.wrap (v5 - 1)), y12.2, y15.1, y15.2)
    else
      callK (p_spec_l00Src_pick 14 v6) fun y16 =>
      if y16.1 = 0 then
        callK (p_spec_l00Src_among' y16.2 ([(-1), 15, 16] : List Int)) fun y18 =>
        some (y18.1, y18.2, v8)
      else
        if y16.1 = 1 then
          callK (p_spec_l00Src_among' y16.2 ([(-1), 1000000, 1000001] : List Int)) fun y20 =>
          getK v8 y3.1 fun x21 =>
          some (v7, y20.2, (v8.set (Int.toNat y3.1) y20.1))
        else
          if y16.1 = 2 then
            grd (0 ≤ 0 ∧ 0 ≤ (v8.length : Int)) <|
            some (v7, y16.2, (v8.take (Int.toNat 0)))
          else
            some (v7, y16.2, v8)) NN (y4.1, y4.2, y2.1, y2.2)

theorem L_spec_l13Draw (a_0 : Sl00Src) {r : (Int × Sl00Src × (List Int))} (h : p_spec_l13Draw a_0 = some r) : callL E 121 [.bp 0 0] ([some (.box [.d (.arr (a_0.Code.map rU)), IN a_0.At, .d (.lit (.int .u64 a_0.Seed))])] : Fo) = some (.agg [.sl 1, IN r.1], ([some (.box [.d (.arr (r.2.1.Code.map rU)), IN r.2.1.At, .d (.lit (.int .u64 r.2.1.Seed))]), some (.arr 2 1 (r.2.2.map rI))] : Fo)) := by
  unfold p_spec_l13Draw at h
  refine callW (fu := Try.f121) rfl rfl rfl NN ?_
  intro lp cl hlp hcl
  conv => lhs; whnf
  obtain ⟨y1, h_y1, h⟩ := callK_inv h
  rw [cl_eq hcl (L_spec_l00Src_pick 8 a_0 h_y1)]
  rotate_left
  · show _ = _
    kernel_rfl
  · show _ = _
    kernel_rfl
  conv => lhs; whnf
  obtain ⟨y2, h_y2, h⟩ := callK_inv h
  rw [cl_eq hcl (L_spec_l13New (IntKind.i64.wrap (1 + y1.1)) h_y2)]
  rotate_left
  · show _ = _
    kernel_rfl
  · show _ = _
    kernel_rfl
  conv => lhs; whnf
  try rw [len_of (l := y2.2) (r := rI)]
  obtain ⟨y3, h_y3, h⟩ := callK_inv h
  rw [cl_eq hcl (L_spec_l00Src_pick (y2.2.length : Int) y1.2 h_y3)]
  rotate_left
  · show _ = _
    kernel_rfl
  · show _ = _
    kernel_rfl
  conv => lhs; whnf
  obtain ⟨y4, h_y4, h⟩ := callK_inv h
  rw [cl_eq hcl (L_spec_l00Src_pick 40 y3.2 h_y4)]
  rotate_left
  · show _ = _
    kernel_rfl
  · show _ = _
    kernel_rfl
  conv => lhs; whnf
  refine loop_iter hlp (fun ((v5, v6, v7, v8) : (Int × Sl00Src × Int × (List Int))) => ([.bp 0 0, .dead, .bp 1 0, .bp 2 0, IN y3.1, IN v5] ++ List.replicate 50 .dead : List V)) (fun ((v5, v6, v7, v8) : (Int × Sl00Src × Int × (List Int))) => ([some (.box [.d (.arr (v6.Code.map rU)), IN v6.At, .d (.lit (.int .u64 v6.Seed))]), some (.box [.d (.arr (([] : List Int).map rI)), IN 0]), some (.box [.sl 3, IN v7]), some (.arr 2 1 (v8.map rI))] : Fo)) (fun (r : (Int × Sl00Src × (List Int))) => ((.agg [.sl 1, IN r.1] : V), ([some (.box [.d (.arr (r.2.1.Code.map rU)), IN r.2.1.At, .d (.lit (.int .u64 r.2.1.Seed))]), some (.arr 2 1 (r.2.2.map rI))] : Fo))) ?_ (y4.1, y4.2, y2.1, y2.2) _ (fun kk => by kernel_rfl) h
  clear h
  rintro next_nx9 nx9 hnx9 ⟨v5, v6, v7, v8⟩ r h
  try dsimp only at h
  conv => lhs; whnf
  cases hb10 : (decide (v5 > 0))
  · replace h := ifF h (decF hb10)
    conv => lhs; whnf
    obtain ⟨y16, h_y16, h⟩ := callK_inv h
    rw [cl_eq hcl (L_spec_l00Src_pick 14 v6 h_y16)]
    rotate_left
    · show _ = _
      kernel_rfl
    · show _ = _
      kernel_rfl
    conv => lhs; whnf
    cases hb17 : (y16.1 == 0)
    · replace h := ifF h (beqF hb17)
      conv => lhs; whnf
      cases hb19 : (y16.1 == 1)
      · replace h := ifF h (beqF hb19)
        conv => lhs; whnf
        cases hb22 : (y16.1 == 2)
        · replace h := ifF h (beqF hb22)
          conv => lhs; whnf
          obtain rfl := Option.some.inj h
          show _ = _
          kernel_rfl
        · replace h := ifT h (beqT hb22)
          conv => lhs; whnf
          obtain ⟨hg23, h⟩ := grd_inv h
          try rw [List.length_map]
          try (rw [decide_eq_true hg23.1]; conv => lhs; whnf)
          try (rw [decide_eq_true hg23.2])
          conv => lhs; whnf
          try rw [take_of (r := rI) (l := v8)]
          obtain rfl := Option.some.inj h
          show _ = _
          kernel_rfl
      · replace h := ifT h (beqT hb19)
        conv => lhs; whnf
        obtain ⟨y20, h_y20, h⟩ := callK_inv h
        rw [cl_eq hcl (L_spec_l00Src_among' y16.2 ([(-1), 1000000, 1000001] : List Int) h_y20)]
        rotate_left
        · show _ = _
          kernel_rfl
        · show _ = _
          kernel_rfl
        conv => lhs; whnf
        obtain ⟨x21, hq_x21, hx_x21', h⟩ := getK_inv h
        have hx_x21 := get_of (r := rI) hx_x21'
        try (rw [decide_eq_true hq_x21]; conv => lhs; whnf)
        rw [hx_x21]
        conv => lhs; whnf
        rw [hx_x21]
        conv => lhs; whnf
        first | (rw [map_set_of (r := rI) (l := v8) (x := y20.1) ?hh]; case hh => exact rfl) | skip
        obtain rfl := Option.some.inj h
        show _ = _
        kernel_rfl
    · replace h := ifT h (beqT hb17)
      conv => lhs; whnf
      obtain ⟨y18, h_y18, h⟩ := callK_inv h
      rw [cl_eq hcl (L_spec_l00Src_among' y16.2 ([(-1), 15, 16] : List Int) h_y18)]
      rotate_left
      · show _ = _
        kernel_rfl
      · show _ = _
        kernel_rfl
      conv => lhs; whnf
      obtain rfl := Option.some.inj h
      show _ = _
      kernel_rfl
  · replace h := ifT h (decT hb10)
    conv => lhs; whnf
    try rw [len_of (l := v8) (r := rI)]
    obtain ⟨y11, h_y11, h⟩ := callK_inv h
    rw [cl_eq hcl (L_spec_l00Src_pick (v8.length : Int) v6 h_y11)]
    rotate_left
    · show _ = _
      kernel_rfl
    · show _ = _
      kernel_rfl
    conv => lhs; whnf
    obtain ⟨y12, h_y12, h⟩ := callK_inv h
    rw [cl_eq hcl (L_spec_l00Src_one 2 y11.2 h_y12)]
    rotate_left
    · show _ = _
      kernel_rfl
    · show _ = _
      kernel_rfl
    conv => lhs; whnf
    cases hb13 : y12.1
    · replace h := ifF h (booF hb13)
      conv => lhs; whnf
      obtain ⟨y15, h_y15, h⟩ := callK_inv h
      rw [cl_eq hcl (L_spec_l13Note y11.1 v7 v8 h_y15)]
      rotate_left
      · show _ = _
        kernel_rfl
      · show _ = _
        kernel_rfl
      conv => lhs; whnf
      exact hnx9 _ _ _ _ (fun kk => by kernel_rfl) h
    · replace h := ifT h hb13
      conv => lhs; whnf
      obtain ⟨y14, h_y14, h⟩ := callK_inv h
      rw [cl_eq hcl (L_spec_l13Note y3.1 v7 v8 h_y14)]
      rotate_left
      · show _ = _
        kernel_rfl
      · show _ = _
        kernel_rfl
      conv => lhs; whnf
      exact hnx9 _ _ _ _ (fun kk => by kernel_rfl) h

noncomputable def p_spec_DrawNoteWrite (a_0 : List Int) : Option (Int × Int × (List Int)) :=
  callK (p_spec_l00From a_0) fun y1 =>
  callK (p_spec_l13Draw y1) fun y2 =>
  callK (p_spec_l00Src_pick 10 y2.2.1) fun y3 =>
  some (y2.1, (IntKind.i64.wrap (y3.1 - 1)), y2.2.2)

theorem L_spec_DrawNoteWrite (a_0 : List Int) {r : (Int × Int × (List Int))} (h : p_spec_DrawNoteWrite a_0 = some r) : callL E 27 [.d (.arr (a_0.map rU))] ([] : Fo) = some (.tup [.agg [.sl 0, IN r.1], IN r.2.1], ([some (.arr 2 1 (r.2.2.map rI))] : Fo)) := by
  unfold p_spec_DrawNoteWrite at h
  refine callW (fu := Try.f27) rfl rfl rfl NN ?_
  intro lp cl hlp hcl
  conv => lhs; whnf
  obtain ⟨y1, h_y1, h⟩ := callK_inv h
  rw [cl_eq hcl (L_spec_l00From a_0 h_y1)]
  rotate_left
  · show _ = _
    kernel_rfl
  · show _ = _
    kernel_rfl
  conv => lhs; whnf
  obtain ⟨y2, h_y2, h⟩ := callK_inv h
  rw [cl_eq hcl (L_spec_l13Draw y1 h_y2)]
  rotate_left
  · show _ = _
    kernel_rfl
  · show _ = _
    kernel_rfl
  conv => lhs; whnf
  obtain ⟨y3, h_y3, h⟩ := callK_inv h
  rw [cl_eq hcl (L_spec_l00Src_pick 10 y2.2.1 h_y3)]
  rotate_left
  · show _ = _
    kernel_rfl
  · show _ = _
    kernel_rfl
  conv => lhs; whnf
  obtain rfl := Option.some.inj h
  show _ = _
  kernel_rfl

noncomputable def p_impl_allWithin_c1 (a_0 : Int) (a_1 : Int) (a_2 : Int) : Option Bool :=
  some (!(inR a_0 a_1 a_2))

theorem L_impl_allWithin_c1 (a_0 : Int) (a_1 : Int) (a_2 : Int) {r : Bool} (h : p_impl_allWithin_c1 a_0 a_1 a_2 = some r) : callL E 227 [IN a_0, .bp 0 0, .bp 1 0] ([some (.box [IN a_1]), some (.box [IN a_2])] : Fo) = some (BO r, ([some (.box [IN a_1]), some (.box [IN a_2])] : Fo)) := by
  unfold p_impl_allWithin_c1 at h
  refine callW (fu := Try.f227) rfl rfl rfl NN ?_
  intro lp cl hlp hcl
  conv => lhs; whnf
  rw [cl_eq hcl (L_impl_within a_0 a_1 a_2 (pl_within a_0 a_1 a_2))]
  rotate_left
  · show _ = _
    kernel_rfl
  · show _ = _
    kernel_rfl
  conv => lhs; whnf
  obtain rfl := Option.some.inj h
  show _ = _
  kernel_rfl

noncomputable def p_slices_IndexFunc_impl_allWithin_c1 (a_0 : List Int) (a_1 : Int) (a_2 : Int) : Option Int :=
  grd (a_0.length < 4611686018427387904) <|
  forK a_0 (fun (i6 : Nat) x8 (_ : Unit) (nx7 : Unit → Option _) =>
    callK (p_impl_allWithin_c1 x8 a_1 a_2) fun y9 =>
    if y9 = true then
      some (i6 : Int)
    else
      nx7 ()) () (fun (_ : Unit) =>
    some (-1))

theorem L_slices_IndexFunc_impl_allWithin_c1 (a_0 : List Int) (a_1 : Int) (a_2 : Int) {r : Int} (h : p_slices_IndexFunc_impl_allWithin_c1 a_0 a_1 a_2 = some r) : callL E 210 [.d (.arr (a_0.map rI)), .clo 227 [.bp 0 0, .bp 1 0]] ([some (.box [IN a_1]), some (.box [IN a_2])] : Fo) = some (IN r, ([some (.box [IN a_1]), some (.box [IN a_2])] : Fo)) := by
  unfold p_slices_IndexFunc_impl_allWithin_c1 at h
  refine callW (fu := Try.f210) rfl rfl rfl NN ?_
  intro lp cl hlp hcl
  conv => lhs; whnf
  try rw [len_of (l := a_0) (r := rI)]
  obtain ⟨hl_i6, h⟩ := grd_inv h
  refine loop_for hlp (l := a_0) hl_i6 (fun (i6 : Nat) (_ : Unit) => ([.d (.arr (a_0.map rI)), .clo 227 [.bp 0 0, .bp 1 0], .dead, .dead, .dead, .dead, .dead, IN (a_0.length : Int), IN (i6 : Int)] ++ List.replicate 10 .dead : List V)) (fun (i6 : Nat) (_ : Unit) => ([some (.box [IN a_1]), some (.box [IN a_2])] : Fo)) (fun (r : Int) => ((IN r : V), ([some (.box [IN a_1]), some (.box [IN a_2])] : Fo))) ?_ ?_ () _ (fun kk => by kernel_rfl) h
  · clear h
    rintro next_nx7 nx7 i6 hi_i6 hnx7 ⟨⟩ r h
    try dsimp only at h
    have hn_i6 : i6 < 4611686018427387904 := by omega
    have hx_x8 := get_map rI a_0 i6 hi_i6
    generalize a_0[i6] = x8 at h hx_x8
    have hd_i6 : (decide ((i6 : Int) < (a_0.length : Int))) = true := decide_eq_true (by omega)
    conv => lhs; whnf
    rw [hd_i6]
    conv => lhs; whnf
    try (rw [decide_eq_true hq_x8]; conv => lhs; whnf)
    rw [hx_x8]
    conv => lhs; whnf
    rw [hx_x8]
    conv => lhs; whnf
    obtain ⟨y9, h_y9, h⟩ := callK_inv h
    rw [cl_eq hcl (L_impl_allWithin_c1 x8 a_1 a_2 h_y9)]
    rotate_left
    · show _ = _
      kernel_rfl
    · show _ = _
      kernel_rfl
    conv => lhs; whnf
    cases hb10 : y9
    · replace h := ifF h (booF hb10)
      conv => lhs; whnf
      rw [wrap_nat i6 (by have := hn_i6; omega)]
      exact hnx7 _ _ _ _ (fun kk => by kernel_rfl) h
    · replace h := ifT h hb10
      conv => lhs; whnf
      obtain rfl := Option.some.inj h
      show _ = _
      kernel_rfl
  · clear h
    rintro next_nx7 ⟨⟩ r h
    try dsimp only at h
    have hd_i6 : (decide ((a_0.length : Int) < (a_0.length : Int))) = false := decide_eq_false (by omega)
    conv => lhs; whnf
    rw [hd_i6]
    conv => lhs; whnf
    obtain rfl := Option.some.inj h
    show _ = _
    kernel_rfl

noncomputable def p_slices_ContainsFunc_impl_allWithin_c1 (a_0 : List Int) (a_1 : Int) (a_2 : Int) : Option Bool :=
  callK (p_slices_IndexFunc_impl_allWithin_c1 a_0 a_1 a_2) fun y1 =>
  some (decide (y1 ≥ 0))

theorem L_slices_ContainsFunc_impl_allWithin_c1 (a_0 : List Int) (a_1 : Int) (a_2 : Int) {r : Bool} (h : p_slices_ContainsFunc_impl_allWithin_c1 a_0 a_1 a_2 = some r) : callL E 108 [.d (.arr (a_0.map rI)), .clo 227 [.bp 0 0, .bp 1 0]] ([some (.box [IN a_1]), some (.box [IN a_2])] : Fo) = some (BO r, ([some (.box [IN a_1]), some (.box [IN a_2])] : Fo)) := by
  unfold p_slices_ContainsFunc_impl_allWithin_c1 at h
  refine callW (fu := Try.f108) rfl rfl rfl NN ?_
  intro lp cl hlp hcl
  conv => lhs; whnf
  obtain ⟨y1, h_y1, h⟩ := callK_inv h
  rw [cl_eq hcl (L_slices_IndexFunc_impl_allWithin_c1 a_0 a_1 a_2 h_y1)]
  rotate_left
  · show _ = _
    kernel_rfl
  · show _ = _
    kernel_rfl
  conv => lhs; whnf
  obtain rfl := Option.some.inj h
  show _ = _
  kernel_rfl

noncomputable def p_impl_allWithin (a_0 : List Int) (a_1 : Int) (a_2 : Int) : Option Bool :=
  callK (p_slices_ContainsFunc_impl_allWithin_c1 a_0 a_1 a_2) fun y1 =>
  some (!y1)

theorem L_impl_allWithin (a_0 : List Int) (a_1 : Int) (a_2 : Int) {r : Bool} (h : p_impl_allWithin a_0 a_1 a_2 = some r) : callL E 149 [.d (.arr (a_0.map rI)), IN a_1, IN a_2] ([] : Fo) = some (BO r, ([] : Fo)) := by
  unfold p_impl_allWithin at h
  refine callW (fu := Try.f149) rfl rfl rfl NN ?_
  intro lp cl hlp hcl
  conv => lhs; whnf
  obtain ⟨y1, h_y1, h⟩ := callK_inv h
  rw [cl_eq hcl (L_slices_ContainsFunc_impl_allWithin_c1 a_0 a_1 a_2 h_y1)]
  rotate_left
  · show _ = _
    kernel_rfl
  · show _ = _
    kernel_rfl
  conv => lhs; whnf
  obtain rfl := Option.some.inj h
  show _ = _
  kernel_rfl

noncomputable def p_impl_ValidHeat (a_0 : Heat) : Option Bool :=
  if (inR (a_0.Counts.length : Int) 1 48) = true then
    callK (p_impl_allWithin a_0.Counts 0 1000000) fun y2 =>
    if y2 = true then
      some (inR a_0.Writes 0 15)
    else
      some false
  else
    some false

theorem L_impl_ValidHeat (a_0 : Heat) {r : Bool} (h : p_impl_ValidHeat a_0 = some r) : callL E 123 [.agg [.d (.arr (a_0.Counts.map rI)), IN a_0.Writes]] ([] : Fo) = some (BO r, ([] : Fo)) := by
  unfold p_impl_ValidHeat at h
  refine callW (fu := Try.f123) rfl rfl rfl NN ?_
  intro lp cl hlp hcl
  conv => lhs; whnf
  try rw [len_of (l := a_0.Counts) (r := rI)]
  rw [cl_eq hcl (L_impl_within (a_0.Counts.length : Int) 1 48 (pl_within (a_0.Counts.length : Int) 1 48))]
  rotate_left
  · show _ = _
    kernel_rfl
  · show _ = _
    kernel_rfl
  conv => lhs; whnf
  cases hb1 : (inR (a_0.Counts.length : Int) 1 48)
  · replace h := ifF h (booF hb1)
    conv => lhs; whnf
    try (rw [hb1]; conv => lhs; whnf)
    try (rw [hb1]; conv => lhs; whnf)
    try (rw [hb1]; conv => lhs; whnf)
    obtain rfl := Option.some.inj h
    show _ = _
    kernel_rfl
  · replace h := ifT h hb1
    conv => lhs; whnf
    try (rw [hb1]; conv => lhs; whnf)
    try (rw [hb1]; conv => lhs; whnf)
    obtain ⟨y2, h_y2, h⟩ := callK_inv h
    rw [cl_eq hcl (L_impl_allWithin a_0.Counts 0 1000000 h_y2)]
    rotate_left
    · show _ = _
      kernel_rfl
    · show _ = _
      kernel_rfl
    conv => lhs; whnf
    try (rw [hb1]; conv => lhs; whnf)
    cases hb3 : y2
    · replace h := ifF h (booF hb3)
      conv => lhs; whnf
      try (rw [hb3]; conv => lhs; whnf)
      try (rw [hb3]; conv => lhs; whnf)
      try (rw [hb3]; conv => lhs; whnf)
      obtain rfl := Option.some.inj h
      show _ = _
      kernel_rfl
    · replace h := ifT h hb3
      conv => lhs; whnf
      try (rw [hb3]; conv => lhs; whnf)
      try (rw [hb3]; conv => lhs; whnf)
      rw [cl_eq hcl (L_impl_within a_0.Writes 0 15 (pl_within a_0.Writes 0 15))]
      rotate_left
      · show _ = _
        kernel_rfl
      · show _ = _
        kernel_rfl
      conv => lhs; whnf
      try (rw [hb3]; conv => lhs; whnf)
      obtain rfl := Option.some.inj h
      show _ = _
      kernel_rfl

noncomputable def p_impl_isIndex (a_0 : Int) (a_1 : Int) : Option Bool :=
  some (inR a_0 0 (IntKind.i64.wrap (a_1 - 1)))

theorem L_impl_isIndex (a_0 : Int) (a_1 : Int) {r : Bool} (h : p_impl_isIndex a_0 a_1 = some r) : callL E 120 [IN a_0, IN a_1] ([] : Fo) = some (BO r, ([] : Fo)) := by
  unfold p_impl_isIndex at h
  refine callW (fu := Try.f120) rfl rfl rfl NN ?_
  intro lp cl hlp hcl
  conv => lhs; whnf
  rw [cl_eq hcl (L_impl_within a_0 0 (IntKind.i64.wrap (a_1 - 1)) (pl_within a_0 0 (IntKind.i64.wrap (a_1 - 1))))]
  rotate_left
  · show _ = _
    kernel_rfl
  · show _ = _
    kernel_rfl
  conv => lhs; whnf
  obtain rfl := Option.some.inj h
  show _ = _
  kernel_rfl

noncomputable def p_impl_Heat_decayed (a_0 : Heat) : Option (Int × (List Int)) :=
  grd (appOk a_0.Counts.length 8 = true) <|
  grd (a_0.Counts.length < 4611686018427387904) <|
  forK a_0.Counts (fun (i5 : Nat) x8 (v6 : List Int) (nx7 : (List Int) → Option _) =>
    getK v6 (i5 : Int) fun x9 =>
    nx7 (v6.set (Int.toNat (i5 : Int)) (IntKind.i64.wrap (Int.tdiv x9 2)))) a_0.Counts (fun (v6 : List Int) =>
    some (0, v6))

theorem L_impl_Heat_decayed (a_0 : Heat) {r : (Int × (List Int))} (h : p_impl_Heat_decayed a_0 = some r) : callL E 218 [.agg [.d (.arr (a_0.Counts.map rI)), IN a_0.Writes]] ([] : Fo) = some (.agg [.sl 0, IN r.1], ([some (.arr 2 1 (r.2.map rI))] : Fo)) := by
  unfold p_impl_Heat_decayed at h
  refine callW (fu := Try.f218) rfl rfl rfl NN ?_
  intro lp cl hlp hcl
  conv => lhs; whnf
  obtain ⟨hg10, h⟩ := grd_inv h
  rw [cl_eq hcl (f_clone (rows := a_0.Counts.map rI) rfl (app_eq hg10 (List.length_map ..) rfl) (allLen_map rI _ rI_len _) rfl)]
  rotate_left
  · exact rfl
  · exact rfl
  conv => lhs; whnf
  try rw [len_of (l := a_0.Counts) (r := rI)]
  obtain ⟨hl_i5, h⟩ := grd_inv h
  refine loop_for hlp (l := a_0.Counts) hl_i5 (fun (i5 : Nat) (v6 : List Int) => ([.dead, .dead, .bp 0 0, .bp 1 0, .dead, .dead, .dead, .dead, .dead, .dead, .dead, IN (a_0.Counts.length : Int), IN (i5 : Int)] ++ List.replicate 11 .dead : List V)) (fun (i5 : Nat) (v6 : List Int) => ([some (.box [.d (.arr (([] : List Int).map rI)), IN 0]), some (.box [.sl 2, IN 0]), some (.arr 2 1 (v6.map rI))] : Fo)) (fun (r : (Int × (List Int))) => ((.agg [.sl 0, IN r.1] : V), ([some (.arr 2 1 (r.2.map rI))] : Fo))) ?_ ?_ a_0.Counts _ (fun kk => by kernel_rfl) h
  · clear h
    rintro next_nx7 nx7 i5 hi_i5 hnx7 v6 r h
    try dsimp only at h
    have hn_i5 : i5 < 4611686018427387904 := by omega
    have hx_x8 := get_map rI a_0.Counts i5 hi_i5
    generalize a_0.Counts[i5] = x8 at h hx_x8
    have hd_i5 : (decide ((i5 : Int) < (a_0.Counts.length : Int))) = true := decide_eq_true (by omega)
    conv => lhs; whnf
    rw [hd_i5]
    conv => lhs; whnf
    obtain ⟨x9, hq_x9, hx_x9', h⟩ := getK_inv h
    have hx_x9 := get_of (r := rI) hx_x9'
    try (rw [decide_eq_true hq_x9]; conv => lhs; whnf)
    rw [hx_x9]
    conv => lhs; whnf
    rw [hx_x9]
    conv => lhs; whnf
    try (rw [quo_run _ _ _ 2 (by decide)]; conv => lhs; whnf)
    conv => lhs; whnf
    try (rw [decide_eq_true hq_x9]; conv => lhs; whnf)
    rw [hx_x9]
    conv => lhs; whnf
    rw [hx_x9]
    conv => lhs; whnf
    first | (rw [map_set_of (r := rI) (l := v6) (x := (IntKind.i64.wrap (Int.tdiv x9 2))) ?hh]; case hh => exact rfl) | skip
    rw [wrap_nat i5 (by have := hn_i5; omega)]
    exact hnx7 _ _ _ _ (fun kk => by kernel_rfl) h
  · clear h
    rintro next_nx7 v6 r h
    try dsimp only at h
    have hd_i5 : (decide ((a_0.Counts.length : Int) < (a_0.Counts.length : Int))) = false := decide_eq_false (by omega)
    conv => lhs; whnf
    rw [hd_i5]
    conv => lhs; whnf
    obtain rfl := Option.some.inj h
    show _ = _
    kernel_rfl

noncomputable def p_impl_Heat_note (a_0 : Heat) (a_1 : Int) : Option (Int × (List Int)) :=
  grd (appOk a_0.Counts.length 8 = true) <|
  getK a_0.Counts a_1 fun x1 =>
  if (IntKind.i64.wrap (a_0.Writes + 1)) = 16 then
    callK (p_impl_Heat_decayed (⟨(a_0.Counts.set (Int.toNat a_1) (if 1000000 < (IntKind.i64.wrap (x1 + 1)) then 1000000 else (IntKind.i64.wrap (x1 + 1)))), (IntKind.i64.wrap (a_0.Writes + 1))⟩ : Heat)) fun y3 =>
    some (y3.1, y3.2)
  else
    some ((IntKind.i64.wrap (a_0.Writes + 1)), (a_0.Counts.set (Int.toNat a_1) (if 1000000 < (IntKind.i64.wrap (x1 + 1)) then 1000000 else (IntKind.i64.wrap (x1 + 1)))))

theorem L_impl_Heat_note (a_0 : Heat) (a_1 : Int) {r : (Int × (List Int))} (h : p_impl_Heat_note a_0 a_1 = some r) : callL E 124 [.agg [.d (.arr (a_0.Counts.map rI)), IN a_0.Writes], IN a_1] ([] : Fo) = some (.agg [.sl 0, IN r.1], ([some (.arr 2 1 (r.2.map rI))] : Fo)) := by
  unfold p_impl_Heat_note at h
  refine callW (fu := Try.f124) rfl rfl rfl NN ?_
  intro lp cl hlp hcl
  conv => lhs; whnf
  obtain ⟨hg4, h⟩ := grd_inv h
  rw [cl_eq hcl (f_clone (rows := a_0.Counts.map rI) rfl (app_eq hg4 (List.length_map ..) rfl) (allLen_map rI _ rI_len _) rfl)]
  rotate_left
  · exact rfl
  · exact rfl
  conv => lhs; whnf
  obtain ⟨x1, hq_x1, hx_x1', h⟩ := getK_inv h
  have hx_x1 := get_of (r := rI) hx_x1'
  try (rw [decide_eq_true hq_x1]; conv => lhs; whnf)
  rw [hx_x1]
  conv => lhs; whnf
  rw [hx_x1]
  conv => lhs; whnf
  try (rw [decide_eq_true hq_x1]; conv => lhs; whnf)
  rw [hx_x1]
  conv => lhs; whnf
  rw [hx_x1]
  conv => lhs; whnf
  first | (rw [map_set_of (r := rI) (l := a_0.Counts) (x := (if 1000000 < (IntKind.i64.wrap (x1 + 1)) then 1000000 else (IntKind.i64.wrap (x1 + 1)))) ?hh]; case hh => exact rfl) | skip
  cases hb2 : ((IntKind.i64.wrap (a_0.Writes + 1)) == 16)
  · replace h := ifF h (beqF hb2)
    conv => lhs; whnf
    obtain rfl := Option.some.inj h
    show _ = _
    kernel_rfl
  · replace h := ifT h (beqT hb2)
    conv => lhs; whnf
    obtain ⟨y3, h_y3, h⟩ := callK_inv h
    rw [cl_eq hcl (L_impl_Heat_decayed (⟨(a_0.Counts.set (Int.toNat a_1) (if 1000000 < (IntKind.i64.wrap (x1 + 1)) then 1000000 else (IntKind.i64.wrap (x1 + 1)))), (IntKind.i64.wrap (a_0.Writes + 1))⟩ : Heat) h_y3)]
    rotate_left
    · show _ = _
      kernel_rfl
    · show _ = _
      kernel_rfl
    conv => lhs; whnf
    obtain rfl := Option.some.inj h
    show _ = _
    kernel_rfl

noncomputable def p_impl_NoteWrite (a_0 : Heat) (a_1 : Int) : Option (Int × Int × (List Int)) :=
  callK (p_impl_ValidHeat a_0) fun y1 =>
  if y1 = true then
    callK (p_impl_isIndex a_1 (a_0.Counts.length : Int)) fun y3 =>
    if y3 = true then
      callK (p_impl_Heat_note a_0 a_1) fun y5 =>
      some (y5.1, 0, y5.2)
    else
      some (0, 2, ([] : List Int))
  else
    some (0, 1, ([] : List Int))

theorem L_impl_NoteWrite (a_0 : Heat) (a_1 : Int) {r : (Int × Int × (List Int))} (h : p_impl_NoteWrite a_0 a_1 = some r) : callL E 28 [.agg [.d (.arr (a_0.Counts.map rI)), IN a_0.Writes], IN a_1] ([] : Fo) = some (.tup [.agg [.sl 0, IN r.1], IN r.2.1], ([some (.arr 2 1 (r.2.2.map rI))] : Fo)) := by
  unfold p_impl_NoteWrite at h
  refine callW (fu := Try.f28) rfl rfl rfl NN ?_
  intro lp cl hlp hcl
  conv => lhs; whnf
  obtain ⟨y1, h_y1, h⟩ := callK_inv h
  rw [cl_eq hcl (L_impl_ValidHeat a_0 h_y1)]
  rotate_left
  · show _ = _
    kernel_rfl
  · show _ = _
    kernel_rfl
  conv => lhs; whnf
  cases hb2 : y1
  · replace h := ifF h (booF hb2)
    conv => lhs; whnf
    obtain rfl := Option.some.inj h
    show _ = _
    kernel_rfl
  · replace h := ifT h hb2
    conv => lhs; whnf
    try rw [len_of (l := a_0.Counts) (r := rI)]
    obtain ⟨y3, h_y3, h⟩ := callK_inv h
    rw [cl_eq hcl (L_impl_isIndex a_1 (a_0.Counts.length : Int) h_y3)]
    rotate_left
    · show _ = _
      kernel_rfl
    · show _ = _
      kernel_rfl
    conv => lhs; whnf
    cases hb4 : y3
    · replace h := ifF h (booF hb4)
      conv => lhs; whnf
      obtain rfl := Option.some.inj h
      show _ = _
      kernel_rfl
    · replace h := ifT h hb4
      conv => lhs; whnf
      obtain ⟨y5, h_y5, h⟩ := callK_inv h
      rw [cl_eq hcl (L_impl_Heat_note a_0 a_1 h_y5)]
      rotate_left
      · show _ = _
        kernel_rfl
      · show _ = _
        kernel_rfl
      conv => lhs; whnf
      obtain rfl := Option.some.inj h
      show _ = _
      kernel_rfl

noncomputable def p_spec_l13Ok (a_0 : Heat) : Option Bool :=
  if (a_0.Counts.length : Int) < 1 then
    some false
  else
    if (a_0.Counts.length : Int) > 48 then
      some false
    else
      if (inR a_0.Writes 0 15) = true then
        grd (a_0.Counts.length < 4611686018427387904) <|
        forK a_0.Counts (fun (i8 : Nat) x10 (_ : Unit) (nx9 : Unit → Option _) =>
          if (inR x10 0 1000000) = true then
            nx9 ()
          else
            some false) () (fun (_ : Unit) =>
          some true)
      else
        some false

theorem L_spec_l13Ok (a_0 : Heat) {r : Bool} (h : p_spec_l13Ok a_0 = some r) : callL E 125 [.bp 0 0] ([some (.box [.d (.arr (a_0.Counts.map rI)), IN a_0.Writes])] : Fo) = some (BO r, ([some (.box [.d (.arr (a_0.Counts.map rI)), IN a_0.Writes])] : Fo)) := by
  unfold p_spec_l13Ok at h
  refine callW (fu := Try.f125) rfl rfl rfl NN ?_
  intro lp cl hlp hcl
  conv => lhs; whnf
  try rw [len_of (l := a_0.Counts) (r := rI)]
  cases hb1 : (decide ((a_0.Counts.length : Int) < 1))
  · replace h := ifF h (decF hb1)
    conv => lhs; whnf
    try (rw [hb1]; conv => lhs; whnf)
    try (rw [hb1]; conv => lhs; whnf)
    try (rw [hb1]; conv => lhs; whnf)
    try (rw [hb1]; conv => lhs; whnf)
    try rw [len_of (l := a_0.Counts) (r := rI)]
    try (rw [hb1]; conv => lhs; whnf)
    try (rw [hb1]; conv => lhs; whnf)
    cases hb2 : (decide ((a_0.Counts.length : Int) > 48))
    · replace h := ifF h (decF hb2)
      conv => lhs; whnf
      try (rw [hb2]; conv => lhs; whnf)
      try (rw [hb2]; conv => lhs; whnf)
      try (rw [hb2]; conv => lhs; whnf)
      try (rw [hb2]; conv => lhs; whnf)
      rw [cl_eq hcl (L_spec_l00In a_0.Writes 0 15 (pl_l00In a_0.Writes 0 15))]
      rotate_left
      · show _ = _
        kernel_rfl
      · show _ = _
        kernel_rfl
      conv => lhs; whnf
      try (rw [hb2]; conv => lhs; whnf)
      try (rw [hb2]; conv => lhs; whnf)
      cases hb3 : (inR a_0.Writes 0 15)
      · replace h := ifF h (booF hb3)
        conv => lhs; whnf
        obtain rfl := Option.some.inj h
        show _ = _
        kernel_rfl
      · replace h := ifT h hb3
        conv => lhs; whnf
        obtain ⟨hl_i8, h⟩ := grd_inv h
        refine loop_for hlp (l := a_0.Counts) hl_i8 (fun (i8 : Nat) (_ : Unit) => ([.bp 0 0, .dead, .dead, IN (i8 : Int)] ++ List.replicate 40 .dead : List V)) (fun (i8 : Nat) (_ : Unit) => ([some (.box [.d (.arr (a_0.Counts.map rI)), IN a_0.Writes])] : Fo)) (fun (r : Bool) => ((BO r : V), ([some (.box [.d (.arr (a_0.Counts.map rI)), IN a_0.Writes])] : Fo))) ?_ ?_ () _ (fun kk => by kernel_rfl) h
        · clear h
          rintro next_nx9 nx9 i8 hi_i8 hnx9 ⟨⟩ r h
          try dsimp only at h
          have hn_i8 : i8 < 4611686018427387904 := by omega
          have hx_x10 := get_map rI a_0.Counts i8 hi_i8
          generalize a_0.Counts[i8] = x10 at h hx_x10
          have hd_i8 : (decide ((i8 : Int) < (a_0.Counts.length : Int))) = true := decide_eq_true (by omega)
          conv => lhs; whnf
          try rw [len_of (l := a_0.Counts) (r := rI)]
          rw [hd_i8]
          conv => lhs; whnf
          try (rw [decide_eq_true hq_x10]; conv => lhs; whnf)
          rw [hx_x10]
          conv => lhs; whnf
          rw [hx_x10]
          conv => lhs; whnf
          rw [cl_eq hcl (L_spec_l00In x10 0 1000000 (pl_l00In x10 0 1000000))]
          rotate_left
          · show _ = _
            kernel_rfl
          · show _ = _
            kernel_rfl
          conv => lhs; whnf
          cases hb11 : (inR x10 0 1000000)
          · replace h := ifF h (booF hb11)
            conv => lhs; whnf
            obtain rfl := Option.some.inj h
            show _ = _
            kernel_rfl
          · replace h := ifT h hb11
            conv => lhs; whnf
            rw [wrap_nat i8 (by have := hn_i8; omega)]
            exact hnx9 _ _ _ _ (fun kk => by kernel_rfl) h
        · clear h
          rintro next_nx9 ⟨⟩ r h
          try dsimp only at h
          have hd_i8 : (decide ((a_0.Counts.length : Int) < (a_0.Counts.length : Int))) = false := decide_eq_false (by omega)
          conv => lhs; whnf
          try rw [len_of (l := a_0.Counts) (r := rI)]
          rw [hd_i8]
          conv => lhs; whnf
          obtain rfl := Option.some.inj h
          show _ = _
          kernel_rfl
    · replace h := ifT h (decT hb2)
      conv => lhs; whnf
      try (rw [hb2]; conv => lhs; whnf)
      try (rw [hb2]; conv => lhs; whnf)
      try (rw [hb2]; conv => lhs; whnf)
      try (rw [hb2]; conv => lhs; whnf)
      try (rw [hb2]; conv => lhs; whnf)
      try (rw [hb2]; conv => lhs; whnf)
      obtain rfl := Option.some.inj h
      show _ = _
      kernel_rfl
  · replace h := ifT h (decT hb1)
    conv => lhs; whnf
    try (rw [hb1]; conv => lhs; whnf)
    try (rw [hb1]; conv => lhs; whnf)
    try (rw [hb1]; conv => lhs; whnf)
    try (rw [hb1]; conv => lhs; whnf)
    try (rw [hb1]; conv => lhs; whnf)
    try (rw [hb1]; conv => lhs; whnf)
    obtain rfl := Option.some.inj h
    show _ = _
    kernel_rfl

noncomputable def p_spec_l00Own' (a_0 : List Int) : Option Unit :=
  grd (appOk (0 + a_0.length) 8 = true) <|
  some ()

theorem L_spec_l00Own' (a_0 : List Int) {r : Unit} (h : p_spec_l00Own' a_0 = some r) : callL E 219 [.d (.arr (a_0.map rI))] ([] : Fo) = some (.sl 0, ([some (.arr 2 1 (a_0.map rI))] : Fo)) := by
  unfold p_spec_l00Own' at h
  refine callW (fu := Try.f219) rfl rfl rfl NN ?_
  intro lp cl hlp hcl
  conv => lhs; whnf
  obtain ⟨hg1, h⟩ := grd_inv h
  rw [app_eq hg1 ?h1 ?h2]
  case h1 => first | exact rfl | (simp only [List.length_map, List.length_cons, List.length_nil]; done) | (rw [List.length_map]; rfl)
  case h2 => exact rfl
  conv => lhs; whnf
  rw [allLen_map rI _ rI_len]
  conv => lhs; whnf
  first | (rw [nil_app_of (r := rI) (m := a_0) ?hh]; case hh => exact rfl) | skip
  obtain rfl := Option.some.inj h
  show _ = _
  kernel_rfl

noncomputable def p_spec_l13Note' (a_0 : Int) (a_1 : Heat) : Option (Int × (List Int)) :=
  callK (p_spec_l00Own' a_1.Counts) fun y1 =>
  getK a_1.Counts a_0 fun x2 =>
  callK (p_spec_l00Min (IntKind.i64.wrap (x2 + 1)) 1000000) fun y3 =>
  if (IntKind.i64.wrap (a_1.Writes + 1)) = 16 then
    callK (p_spec_l13Decay (IntKind.i64.wrap (a_1.Writes + 1)) (a_1.Counts.set (Int.toNat a_0) y3)) fun y5 =>
    some (y5.1, y5.2)
  else
    some ((IntKind.i64.wrap (a_1.Writes + 1)), (a_1.Counts.set (Int.toNat a_0) y3))

theorem L_spec_l13Note' (a_0 : Int) (a_1 : Heat) {r : (Int × (List Int))} (h : p_spec_l13Note' a_0 a_1 = some r) : callL E 126 [.bp 0 0, IN a_0] ([some (.box [.d (.arr (a_1.Counts.map rI)), IN a_1.Writes])] : Fo) = some (.agg [.sl 1, IN r.1], ([some (.box [.d (.arr (a_1.Counts.map rI)), IN a_1.Writes]), some (.arr 2 1 (r.2.map rI))] : Fo)) := by
  unfold p_spec_l13Note' at h
  refine callW (fu := Try.f126) rfl rfl rfl NN ?_
  intro lp cl hlp hcl
  conv => lhs; whnf
  obtain ⟨y1, h_y1, h⟩ := callK_inv h
  rw [cl_eq hcl (L_spec_l00Own' a_1.Counts h_y1)]
  rotate_left
  · show _ = _
    kernel_rfl
  · show _ = _
    kernel_rfl
  conv => lhs; whnf
  obtain ⟨x2, hq_x2, hx_x2', h⟩ := getK_inv h
  have hx_x2 := get_of (r := rI) hx_x2'
  try (rw [decide_eq_true hq_x2]; conv => lhs; whnf)
  rw [hx_x2]
  conv => lhs; whnf
  rw [hx_x2]
  conv => lhs; whnf
  obtain ⟨y3, h_y3, h⟩ := callK_inv h
  rw [cl_eq hcl (L_spec_l00Min (IntKind.i64.wrap (x2 + 1)) 1000000 h_y3)]
  rotate_left
  · show _ = _
    kernel_rfl
  · show _ = _
    kernel_rfl
  conv => lhs; whnf
  try (rw [decide_eq_true hq_x2]; conv => lhs; whnf)
  rw [hx_x2]
  conv => lhs; whnf
  rw [hx_x2]
  conv => lhs; whnf
  first | (rw [map_set_of (r := rI) (l := a_1.Counts) (x := y3) ?hh]; case hh => exact rfl) | skip
  cases hb4 : ((IntKind.i64.wrap (a_1.Writes + 1)) == 16)
  · replace h := ifF h (beqF hb4)
    conv => lhs; whnf
    obtain rfl := Option.some.inj h
    show _ = _
    kernel_rfl
  · replace h := ifT h (beqT hb4)
    conv => lhs; whnf
    obtain ⟨y5, h_y5, h⟩ := callK_inv h
    rw [cl_eq hcl (L_spec_l13Decay (IntKind.i64.wrap (a_1.Writes + 1)) (a_1.Counts.set (Int.toNat a_0) y3) h_y5)]
    rotate_left
    · show _ = _
      kernel_rfl
    · show _ = _
      kernel_rfl
    conv => lhs; whnf
    obtain rfl := Option.some.inj h
    show _ = _
    kernel_rfl

noncomputable def p_spec_NoteWrite (a_0 : Heat) (a_1 : Int) : Option (Heat × Int) :=
  callK (p_spec_l13Ok a_0) fun y1 =>
  if y1 = true then
    if (inR a_1 0 (IntKind.i64.wrap ((a_0.Counts.length : Int) - 1))) = true then
      callK (p_spec_l13Note' a_1 a_0) fun y4 =>
      some ((⟨y4.2, y4.1⟩ : Heat), 0)
    else
      some ((⟨([] : List Int), 0⟩ : Heat), 2)
  else
    some ((⟨([] : List Int), 0⟩ : Heat), 1)

theorem L_spec_NoteWrite (a_0 : Heat) (a_1 : Int) {r : (Heat × Int)} (h : p_spec_NoteWrite a_0 a_1 = some r) : callL E 29 [.agg [.d (.arr (a_0.Counts.map rI)), IN a_0.Writes], IN a_1] ([] : Fo) = some (.tup [.agg [.d (.arr (r.1.Counts.map rI)), IN r.1.Writes], IN r.2], ([] : Fo)) := by
  unfold p_spec_NoteWrite at h
  refine callW (fu := Try.f29) rfl rfl rfl NN ?_
  intro lp cl hlp hcl
  conv => lhs; whnf
  obtain ⟨y1, h_y1, h⟩ := callK_inv h
  rw [cl_eq hcl (L_spec_l13Ok a_0 h_y1)]
  rotate_left
  · show _ = _
    kernel_rfl
  · show _ = _
    kernel_rfl
  conv => lhs; whnf
  cases hb2 : y1
  · replace h := ifF h (booF hb2)
    conv => lhs; whnf
    obtain rfl := Option.some.inj h
    show _ = _
    kernel_rfl
  · replace h := ifT h hb2
    conv => lhs; whnf
    try rw [len_of (l := a_0.Counts) (r := rI)]
    rw [cl_eq hcl (L_spec_l00In a_1 0 (IntKind.i64.wrap ((a_0.Counts.length : Int) - 1)) (pl_l00In a_1 0 (IntKind.i64.wrap ((a_0.Counts.length : Int) - 1))))]
    rotate_left
    · show _ = _
      kernel_rfl
    · show _ = _
      kernel_rfl
    conv => lhs; whnf
    cases hb3 : (inR a_1 0 (IntKind.i64.wrap ((a_0.Counts.length : Int) - 1)))
    · replace h := ifF h (booF hb3)
      conv => lhs; whnf
      obtain rfl := Option.some.inj h
      show _ = _
      kernel_rfl
    · replace h := ifT h hb3
      conv => lhs; whnf
      obtain ⟨y4, h_y4, h⟩ := callK_inv h
      rw [cl_eq hcl (L_spec_l13Note' a_1 a_0 h_y4)]
      rotate_left
      · show _ = _
        kernel_rfl
      · show _ = _
        kernel_rfl
      conv => lhs; whnf
      obtain rfl := Option.some.inj h
      show _ = _
      kernel_rfl

noncomputable def p_spec_l00Same (a_0 : List Int) (a_1 : List Int) : Option Bool :=
  if ¬ (a_0.length : Int) = (a_1.length : Int) then
    some false
  else
    grd (a_0.length < 4611686018427387904) <|
    forK a_0 (fun (i7 : Nat) x9 (_ : Unit) (nx8 : Unit → Option _) =>
      getK a_1 (i7 : Int) fun x10 =>
      if ¬ x9 = x10 then
        some false
      else
        nx8 ()) () (fun (_ : Unit) =>
      some true)

theorem L_spec_l00Same (a_0 : List Int) (a_1 : List Int) {r : Bool} (h : p_spec_l00Same a_0 a_1 = some r) : callL E 127 [.d (.arr (a_0.map rI)), .d (.arr (a_1.map rI))] ([] : Fo) = some (BO r, ([] : Fo)) := by
  unfold p_spec_l00Same at h
  refine callW (fu := Try.f127) rfl rfl rfl NN ?_
  intro lp cl hlp hcl
  conv => lhs; whnf
  try rw [len_of (l := a_0) (r := rI)]
  try rw [len_of (l := a_1) (r := rI)]
  cases hb1 : ((a_0.length : Int) != (a_1.length : Int))
  · replace h := ifF h ((fun h => not_not_intro (bneF h)) hb1)
    conv => lhs; whnf
    obtain ⟨hl_i7, h⟩ := grd_inv h
    refine loop_for hlp (l := a_0) hl_i7 (fun (i7 : Nat) (_ : Unit) => ([.d (.arr (a_0.map rI)), .d (.arr (a_1.map rI)), .dead, .dead, .dead, IN (i7 : Int)] ++ List.replicate 20 .dead : List V)) (fun (i7 : Nat) (_ : Unit) => ([] : Fo)) (fun (r : Bool) => ((BO r : V), ([] : Fo))) ?_ ?_ () _ (fun kk => by kernel_rfl) h
    · clear h
      rintro next_nx8 nx8 i7 hi_i7 hnx8 ⟨⟩ r h
      try dsimp only at h
      have hn_i7 : i7 < 4611686018427387904 := by omega
      have hx_x9 := get_map rI a_0 i7 hi_i7
      generalize a_0[i7] = x9 at h hx_x9
      have hd_i7 : (decide ((i7 : Int) < (a_0.length : Int))) = true := decide_eq_true (by omega)
      conv => lhs; whnf
      try rw [len_of (l := a_0) (r := rI)]
      rw [hd_i7]
      conv => lhs; whnf
      try (rw [decide_eq_true hq_x9]; conv => lhs; whnf)
      rw [hx_x9]
      conv => lhs; whnf
      rw [hx_x9]
      conv => lhs; whnf
      obtain ⟨x10, hq_x10, hx_x10', h⟩ := getK_inv h
      have hx_x10 := get_of (r := rI) hx_x10'
      try (rw [decide_eq_true hq_x10]; conv => lhs; whnf)
      rw [hx_x10]
      conv => lhs; whnf
      rw [hx_x10]
      conv => lhs; whnf
      cases hb11 : (x9 != x10)
      · replace h := ifF h ((fun h => not_not_intro (bneF h)) hb11)
        conv => lhs; whnf
        rw [wrap_nat i7 (by have := hn_i7; omega)]
        exact hnx8 _ _ _ _ (fun kk => by kernel_rfl) h
      · replace h := ifT h (bneT hb11)
        conv => lhs; whnf
        obtain rfl := Option.some.inj h
        show _ = _
        kernel_rfl
    · clear h
      rintro next_nx8 ⟨⟩ r h
      try dsimp only at h
      have hd_i7 : (decide ((a_0.length : Int) < (a_0.length : Int))) = false := decide_eq_false (by omega)
      conv => lhs; whnf
      try rw [len_of (l := a_0) (r := rI)]
      rw [hd_i7]
      conv => lhs; whnf
      obtain rfl := Option.some.inj h
      show _ = _
      kernel_rfl
  · replace h := ifT h (bneT hb1)
    conv => lhs; whnf
    obtain rfl := Option.some.inj h
    show _ = _
    kernel_rfl

noncomputable def p_spec_SameHeat (a_0 : Heat) (a_1 : Heat) : Option Bool :=
  callK (p_spec_l00Same a_0.Counts a_1.Counts) fun y1 =>
  if y1 = true then
    some (a_0.Writes == a_1.Writes)
  else
    some false

theorem L_spec_SameHeat (a_0 : Heat) (a_1 : Heat) {r : Bool} (h : p_spec_SameHeat a_0 a_1 = some r) : callL E 30 [.agg [.d (.arr (a_0.Counts.map rI)), IN a_0.Writes], .agg [.d (.arr (a_1.Counts.map rI)), IN a_1.Writes]] ([] : Fo) = some (BO r, ([] : Fo)) := by
  unfold p_spec_SameHeat at h
  refine callW (fu := Try.f30) rfl rfl rfl NN ?_
  intro lp cl hlp hcl
  conv => lhs; whnf
  obtain ⟨y1, h_y1, h⟩ := callK_inv h
  rw [cl_eq hcl (L_spec_l00Same a_0.Counts a_1.Counts h_y1)]
  rotate_left
  · show _ = _
    kernel_rfl
  · show _ = _
    kernel_rfl
  conv => lhs; whnf
  cases hb2 : y1
  · replace h := ifF h (booF hb2)
    conv => lhs; whnf
    try (rw [hb2]; conv => lhs; whnf)
    try (rw [hb2]; conv => lhs; whnf)
    try (rw [hb2]; conv => lhs; whnf)
    try (rw [hb2]; conv => lhs; whnf)
    try (rw [hb2]; conv => lhs; whnf)
    obtain rfl := Option.some.inj h
    show _ = _
    kernel_rfl
  · replace h := ifT h hb2
    conv => lhs; whnf
    try (rw [hb2]; conv => lhs; whnf)
    try (rw [hb2]; conv => lhs; whnf)
    try (rw [hb2]; conv => lhs; whnf)
    try (rw [hb2]; conv => lhs; whnf)
    try (rw [hb2]; conv => lhs; whnf)
    obtain rfl := Option.some.inj h
    show _ = _
    kernel_rfl

noncomputable def p_impl_Heat_hot (a_0 : Heat) (a_1 : Int) : Option Bool :=
  grd (a_0.Counts.length < 4611686018427387904) <|
  forK a_0.Counts (fun (i5 : Nat) x8 (v6 : Int) (nx7 : Int → Option _) =>
    nx7 (IntKind.i64.wrap (v6 + x8))) 0 (fun (v6 : Int) =>
    getK a_0.Counts a_1 fun x9 =>
    some (decide ((IntKind.i64.wrap (x9 * (a_0.Counts.length : Int))) > (IntKind.i64.wrap (2 * v6)))))

theorem L_impl_Heat_hot (a_0 : Heat) (a_1 : Int) {r : Bool} (h : p_impl_Heat_hot a_0 a_1 = some r) : callL E 128 [.agg [.d (.arr (a_0.Counts.map rI)), IN a_0.Writes], IN a_1] ([] : Fo) = some (BO r, ([] : Fo)) := by
  unfold p_impl_Heat_hot at h
  refine callW (fu := Try.f128) rfl rfl rfl NN ?_
  intro lp cl hlp hcl
  conv => lhs; whnf
  try rw [len_of (l := a_0.Counts) (r := rI)]
  obtain ⟨hl_i5, h⟩ := grd_inv h
  refine loop_for hlp (l := a_0.Counts) hl_i5 (fun (i5 : Nat) (v6 : Int) => ([.dead, IN a_1, .bp 0 0, .dead, .dead, IN v6, .dead, .dead, .dead, .d (.arr (a_0.Counts.map rI)), IN (a_0.Counts.length : Int), IN (i5 : Int)] ++ List.replicate 19 .dead : List V)) (fun (i5 : Nat) (v6 : Int) => ([some (.box [.d (.arr (a_0.Counts.map rI)), IN a_0.Writes])] : Fo)) (fun (r : Bool) => ((BO r : V), ([] : Fo))) ?_ ?_ 0 _ (fun kk => by kernel_rfl) h
  · clear h
    rintro next_nx7 nx7 i5 hi_i5 hnx7 v6 r h
    try dsimp only at h
    have hn_i5 : i5 < 4611686018427387904 := by omega
    have hx_x8 := get_map rI a_0.Counts i5 hi_i5
    generalize a_0.Counts[i5] = x8 at h hx_x8
    have hd_i5 : (decide ((i5 : Int) < (a_0.Counts.length : Int))) = true := decide_eq_true (by omega)
    conv => lhs; whnf
    rw [hd_i5]
    conv => lhs; whnf
    try (rw [decide_eq_true hq_x8]; conv => lhs; whnf)
    rw [hx_x8]
    conv => lhs; whnf
    rw [hx_x8]
    conv => lhs; whnf
    rw [wrap_nat i5 (by have := hn_i5; omega)]
    exact hnx7 _ _ _ _ (fun kk => by kernel_rfl) h
  · clear h
    rintro next_nx7 v6 r h
    try dsimp only at h
    have hd_i5 : (decide ((a_0.Counts.length : Int) < (a_0.Counts.length : Int))) = false := decide_eq_false (by omega)
    conv => lhs; whnf
    rw [hd_i5]
    conv => lhs; whnf
    obtain ⟨x9, hq_x9, hx_x9', h⟩ := getK_inv h
    have hx_x9 := get_of (r := rI) hx_x9'
    try (rw [decide_eq_true hq_x9]; conv => lhs; whnf)
    rw [hx_x9]
    conv => lhs; whnf
    rw [hx_x9]
    conv => lhs; whnf
    try rw [len_of (l := a_0.Counts) (r := rI)]
    obtain rfl := Option.some.inj h
    show _ = _
    kernel_rfl

noncomputable def p_impl_HotPages (a_0 : Heat) : Option (List Int) :=
  callK (p_impl_ValidHeat a_0) fun y1 =>
  if y1 = true then
    grd (a_0.Counts.length < 4611686018427387904) <|
    forK a_0.Counts (fun (i8 : Nat) x11 (v9 : List Int) (nx10 : (List Int) → Option _) =>
      callK (p_impl_Heat_hot a_0 (i8 : Int)) fun y12 =>
      if y12 = true then
        grd (appOk (v9.length + 1) 8 = true) <|
        nx10 (v9 ++ ([(i8 : Int)] : List Int))
      else
        nx10 v9) ([] : List Int) (fun (v9 : List Int) =>
      some v9)
  else
    some ([] : List Int)

theorem L_impl_HotPages (a_0 : Heat) {r : (List Int)} (h : p_impl_HotPages a_0 = some r) : callL E 31 [.agg [.d (.arr (a_0.Counts.map rI)), IN a_0.Writes]] ([] : Fo) = some (.d (.arr (r.map rI)), ([] : Fo)) := by
  unfold p_impl_HotPages at h
  refine callW (fu := Try.f31) rfl rfl rfl NN ?_
  intro lp cl hlp hcl
  conv => lhs; whnf
  obtain ⟨y1, h_y1, h⟩ := callK_inv h
  rw [cl_eq hcl (L_impl_ValidHeat a_0 h_y1)]
  rotate_left
  · show _ = _
    kernel_rfl
  · show _ = _
    kernel_rfl
  conv => lhs; whnf
  cases hb2 : y1
  · replace h := ifF h (booF hb2)
    conv => lhs; whnf
    obtain rfl := Option.some.inj h
    show _ = _
    kernel_rfl
  · replace h := ifT h hb2
    conv => lhs; whnf
    try rw [len_of (l := a_0.Counts) (r := rI)]
    obtain ⟨hl_i8, h⟩ := grd_inv h
    refine loop_for hlp (l := a_0.Counts) hl_i8 (fun (i8 : Nat) (v9 : List Int) => ([.dead, .bp 0 0, .dead, .sl 1, .dead, .dead, .dead, .dead, .dead, .dead, IN (a_0.Counts.length : Int), IN (i8 : Int)] ++ List.replicate 11 .dead : List V)) (fun (i8 : Nat) (v9 : List Int) => ([some (.box [.d (.arr (a_0.Counts.map rI)), IN a_0.Writes]), some (.arr 2 1 (v9.map rI))] : Fo)) (fun (r : (List Int)) => ((.d (.arr (r.map rI)) : V), ([] : Fo))) ?_ ?_ ([] : List Int) _ (fun kk => by kernel_rfl) h
    · clear h
      rintro next_nx10 nx10 i8 hi_i8 hnx10 v9 r h
      try dsimp only at h
      have hn_i8 : i8 < 4611686018427387904 := by omega
      have hx_x11 := get_map rI a_0.Counts i8 hi_i8
      generalize a_0.Counts[i8] = x11 at h hx_x11
      have hd_i8 : (decide ((i8 : Int) < (a_0.Counts.length : Int))) = true := decide_eq_true (by omega)
      conv => lhs; whnf
      rw [hd_i8]
      conv => lhs; whnf
      obtain ⟨y12, h_y12, h⟩ := callK_inv h
      rw [cl_eq hcl (L_impl_Heat_hot a_0 (i8 : Int) h_y12)]
      rotate_left
      · show _ = _
        kernel_rfl
      · show _ = _
        kernel_rfl
      conv => lhs; whnf
      cases hb13 : y12
      · replace h := ifF h (booF hb13)
        conv => lhs; whnf
        rw [wrap_nat i8 (by have := hn_i8; omega)]
        exact hnx10 _ _ _ _ (fun kk => by kernel_rfl) h
      · replace h := ifT h hb13
        conv => lhs; whnf
        obtain ⟨hg14, h⟩ := grd_inv h
        rw [app_eq hg14 ?h1 ?h2]
        case h1 => first | exact rfl | (simp only [List.length_map, List.length_cons, List.length_nil]; done) | (rw [List.length_map]; rfl)
        case h2 => exact rfl
        conv => lhs; whnf
        first | (rw [map_app_of (r := rI) (l := v9) (m := ([(i8 : Int)] : List Int)) ?hh]; case hh => exact rfl) | skip
        rw [wrap_nat i8 (by have := hn_i8; omega)]
        exact hnx10 _ _ _ _ (fun kk => by kernel_rfl) h
    · clear h
      rintro next_nx10 v9 r h
      try dsimp only at h
      have hd_i8 : (decide ((a_0.Counts.length : Int) < (a_0.Counts.length : Int))) = false := decide_eq_false (by omega)
      conv => lhs; whnf
      rw [hd_i8]
      conv => lhs; whnf
      obtain rfl := Option.some.inj h
      show _ = _
      kernel_rfl

noncomputable def p_laws_c2At (a_0 : List Int) (a_1 : Int) (a_2 : Int) : Option Int :=
  if a_2 ≤ 1 then
    some 0
  else
    if a_1 < (a_0.length : Int) then
      getK a_0 a_1 fun x3 =>
      grd (a_2 ≠ 0) <|
      some (Int.tmod (IntKind.i64.wrap x3) a_2)
    else
      grd (a_2 ≠ 0) <|
      some (Int.tmod (IntKind.i64.wrap ((IntKind.i64.wrap (a_1 * 29)) + 5)) a_2)

theorem L_laws_c2At (a_0 : List Int) (a_1 : Int) (a_2 : Int) {r : Int} (h : p_laws_c2At a_0 a_1 a_2 = some r) : callL E 32 [.d (.arr (a_0.map rU)), IN a_1, IN a_2] ([] : Fo) = some (IN r, ([] : Fo)) := by
  unfold p_laws_c2At at h
  refine callW (fu := Try.f32) rfl rfl rfl NN ?_
  intro lp cl hlp hcl
  conv => lhs; whnf
  cases hb1 : (decide (a_2 ≤ 1))
  · replace h := ifF h (decF hb1)
    conv => lhs; whnf
    try rw [len_of (l := a_0) (r := rU)]
    cases hb2 : (decide (a_1 < (a_0.length : Int)))
    · replace h := ifF h (decF hb2)
      conv => lhs; whnf
      obtain ⟨hg4, h⟩ := grd_inv h
      rw [rem_run _ _ _ _ hg4]
      conv => lhs; whnf
      obtain rfl := Option.some.inj h
      show _ = _
      kernel_rfl
    · replace h := ifT h (decT hb2)
      conv => lhs; whnf
      obtain ⟨x3, hq_x3, hx_x3', h⟩ := getK_inv h
      have hx_x3 := get_of (r := rU) hx_x3'
      try (rw [decide_eq_true hq_x3]; conv => lhs; whnf)
      rw [hx_x3]
      conv => lhs; whnf
      rw [hx_x3]
      conv => lhs; whnf
      obtain ⟨hg5, h⟩ := grd_inv h
      rw [rem_run _ _ _ _ hg5]
      conv => lhs; whnf
      obtain rfl := Option.some.inj h
      show _ = _
      kernel_rfl
  · replace h := ifT h (decT hb1)
    conv => lhs; whnf
    obtain rfl := Option.some.inj h
    show _ = _
    kernel_rfl

noncomputable def p_impl_NewHeat (a_0 : Int) : Option (Int × Int × (List Int)) :=
  if (inR a_0 1 48) = true then
    grd (mkOk a_0 a_0 8 1 = true) <|
    some (0, 0, (List.replicate (Int.toNat a_0) (0 : Int)))
  else
    some (0, 2, ([] : List Int))

theorem L_impl_NewHeat (a_0 : Int) {r : (Int × Int × (List Int))} (h : p_impl_NewHeat a_0 = some r) : callL E 33 [IN a_0] ([] : Fo) = some (.tup [.agg [.sl 0, IN r.1], IN r.2.1], ([some (.arr 2 1 (r.2.2.map rI))] : Fo)) := by
  unfold p_impl_NewHeat at h
  refine callW (fu := Try.f33) rfl rfl rfl NN ?_
  intro lp cl hlp hcl
  conv => lhs; whnf
  rw [cl_eq hcl (L_impl_within a_0 1 48 (pl_within a_0 1 48))]
  rotate_left
  · show _ = _
    kernel_rfl
  · show _ = _
    kernel_rfl
  conv => lhs; whnf
  cases hb1 : (inR a_0 1 48)
  · replace h := ifF h (booF hb1)
    conv => lhs; whnf
    obtain rfl := Option.some.inj h
    show _ = _
    kernel_rfl
  · replace h := ifT h hb1
    conv => lhs; whnf
    obtain ⟨hg2, h⟩ := grd_inv h
    rw [mk_eq hg2 ?h1 ?h2 ?h3 ?h4]
    case h1 => exact rfl
    case h2 => exact rfl
    case h3 => exact rfl
    case h4 => exact rfl
    conv => lhs; whnf
    first | (rw [rep_of (r := rI) (x := (0 : Int)) ?hh]; case hh => exact rfl) | skip
    obtain rfl := Option.some.inj h
    show _ = _
    kernel_rfl

noncomputable def p_impl_IsHot (a_0 : Heat) (a_1 : Int) : Option Bool :=
  callK (p_impl_ValidHeat a_0) fun y1 =>
  if y1 = true then
    callK (p_impl_isIndex a_1 (a_0.Counts.length : Int)) fun y3 =>
    if y3 = true then
      callK (p_impl_Heat_hot a_0 a_1) fun y5 =>
      some y5
    else
      some false
  else
    some false

theorem L_impl_IsHot (a_0 : Heat) (a_1 : Int) {r : Bool} (h : p_impl_IsHot a_0 a_1 = some r) : callL E 34 [.agg [.d (.arr (a_0.Counts.map rI)), IN a_0.Writes], IN a_1] ([] : Fo) = some (BO r, ([] : Fo)) := by
  unfold p_impl_IsHot at h
  refine callW (fu := Try.f34) rfl rfl rfl NN ?_
  intro lp cl hlp hcl
  conv => lhs; whnf
  obtain ⟨y1, h_y1, h⟩ := callK_inv h
  rw [cl_eq hcl (L_impl_ValidHeat a_0 h_y1)]
  rotate_left
  · show _ = _
    kernel_rfl
  · show _ = _
    kernel_rfl
  conv => lhs; whnf
  cases hb2 : y1
  · replace h := ifF h (booF hb2)
    conv => lhs; whnf
    try (rw [hb2]; conv => lhs; whnf)
    try (rw [hb2]; conv => lhs; whnf)
    try (rw [hb2]; conv => lhs; whnf)
    try (rw [hb2]; conv => lhs; whnf)
    try (rw [hb2]; conv => lhs; whnf)
    obtain rfl := Option.some.inj h
    show _ = _
    kernel_rfl
  · replace h := ifT h hb2
    conv => lhs; whnf
    try (rw [hb2]; conv => lhs; whnf)
    try (rw [hb2]; conv => lhs; whnf)
    try (rw [hb2]; conv => lhs; whnf)
    try rw [len_of (l := a_0.Counts) (r := rI)]
    try (rw [hb2]; conv => lhs; whnf)
    obtain ⟨y3, h_y3, h⟩ := callK_inv h
    rw [cl_eq hcl (L_impl_isIndex a_1 (a_0.Counts.length : Int) h_y3)]
    rotate_left
    · show _ = _
      kernel_rfl
    · show _ = _
      kernel_rfl
    conv => lhs; whnf
    try (rw [hb2]; conv => lhs; whnf)
    cases hb4 : y3
    · replace h := ifF h (booF hb4)
      conv => lhs; whnf
      try (rw [hb4]; conv => lhs; whnf)
      try (rw [hb4]; conv => lhs; whnf)
      try (rw [hb4]; conv => lhs; whnf)
      obtain rfl := Option.some.inj h
      show _ = _
      kernel_rfl
    · replace h := ifT h hb4
      conv => lhs; whnf
      try (rw [hb4]; conv => lhs; whnf)
      try (rw [hb4]; conv => lhs; whnf)
      obtain ⟨y5, h_y5, h⟩ := callK_inv h
      rw [cl_eq hcl (L_impl_Heat_hot a_0 a_1 h_y5)]
      rotate_left
      · show _ = _
        kernel_rfl
      · show _ = _
        kernel_rfl
      conv => lhs; whnf
      try (rw [hb4]; conv => lhs; whnf)
      obtain rfl := Option.some.inj h
      show _ = _
      kernel_rfl

noncomputable def p_impl_StreamOf (a_0 : Heat) (a_1 : Int) : Option Int :=
  callK (p_impl_IsHot a_0 a_1) fun y1 =>
  if y1 = true then
    some 1
  else
    some 0

theorem L_impl_StreamOf (a_0 : Heat) (a_1 : Int) {r : Int} (h : p_impl_StreamOf a_0 a_1 = some r) : callL E 35 [.agg [.d (.arr (a_0.Counts.map rI)), IN a_0.Writes], IN a_1] ([] : Fo) = some (IN r, ([] : Fo)) := by
  unfold p_impl_StreamOf at h
  refine callW (fu := Try.f35) rfl rfl rfl NN ?_
  intro lp cl hlp hcl
  conv => lhs; whnf
  obtain ⟨y1, h_y1, h⟩ := callK_inv h
  rw [cl_eq hcl (L_impl_IsHot a_0 a_1 h_y1)]
  rotate_left
  · show _ = _
    kernel_rfl
  · show _ = _
    kernel_rfl
  conv => lhs; whnf
  cases hb2 : y1
  · replace h := ifF h (booF hb2)
    conv => lhs; whnf
    obtain rfl := Option.some.inj h
    show _ = _
    kernel_rfl
  · replace h := ifT h hb2
    conv => lhs; whnf
    obtain rfl := Option.some.inj h
    show _ = _
    kernel_rfl

noncomputable def p_laws_FnStreams (a_0 : List Int) : Option Bool :=
  callK (p_laws_c2Big a_0 ([] : List Int)) fun y1 =>
  if y1 = true then
    some true
  else
    callK (p_spec_DrawNoteWrite a_0) fun y3 =>
    callK (p_impl_NoteWrite (⟨y3.2.2, y3.1⟩ : Heat) y3.2.1) fun y4 =>
    callK (p_spec_NoteWrite (⟨y3.2.2, y3.1⟩ : Heat) y3.2.1) fun y5 =>
    if ¬ y4.2.1 = y5.2 then
      some false
    else
      callK (p_spec_SameHeat (⟨y4.2.2, y4.1⟩ : Heat) y5.1) fun y7 =>
      if y7 = true then
        callK (p_impl_HotPages (⟨y3.2.2, y3.1⟩ : Heat)) fun y9 =>
        if (IntKind.i64.wrap (2 * (y9.length : Int))) ≥ (y3.2.2.length : Int) then
          if (y9.length : Int) > 0 then
            some false
          else
            callK (p_laws_c2At a_0 0 6) fun y12 =>
            callK (p_impl_NewHeat (IntKind.i64.wrap (3 + y12))) fun y13 =>
            callK (p_laws_c2At a_0 1 (IntKind.i64.wrap (3 + y12))) fun y14 =>
            callK (p_laws_c2At a_0 2 30) fun y15 =>
            iterK (fun ((v16, v17, v18, v19) : (Int × Int × Int × (List Int))) (nx20 : (Int × Int × Int × (List Int)) → Option _) =>
              if v17 ≥ 0 then
                if v16 = 0 then
                  callK (p_impl_NoteWrite (⟨v19, v18⟩ : Heat) y14) fun y23 =>
                  nx20 (y23.2.1, (IntKind.i64.wrap (v17 - 1)), y23.1, y23.2.2)
                else
                  some false
              else
                if v16 = 0 then
                  callK (p_impl_IsHot (⟨v19, v18⟩ : Heat) y14) fun y25 =>
                  if y25 = true then
                    callK (p_impl_StreamOf (⟨v19, v18⟩ : Heat) y14) fun y27 =>
                    if y27 = 1 then
                      callK (p_impl_HotPages (⟨v19, v18⟩ : Heat)) fun y29 =>
                      some ((y29.length : Int) == 1)
                    else
                      some false
                  else
                    some false
                else
                  some false) NN (y13.2.1, y15, y13.1, y13.2.2)
        else
          callK (p_laws_c2At a_0 0 6) fun y30 =>
          callK (p_impl_NewHeat (IntKind.i64.wrap (3 + y30))) fun y31 =>
          callK (p_laws_c2At a_0 1 (IntKind.i64.wrap (3 + y30))) fun y32 =>
          callK (p_laws_c2At a_0 2 30) fun y33 =>
          iterK (fun ((v34, v35, v36, v37) : (Int × Int × Int × (List Int))) (nx38 : (Int × Int × Int × (List Int)) → Option _) =>
            if v35 ≥ 0 then
              if v34 = 0 then
                callK (p_impl_NoteWrite (⟨v37, v36⟩ : Heat) y32) fun y41 =>
                nx38 (y41.2.1, (IntKind.i64.wrap (v35 - 1)), y41.1, y41.2.2)
              else
                some false
            else
              if v34 = 0 then
                callK (p_impl_IsHot (⟨v37, v36⟩ : Heat) y32) fun y43 =>
                if y43 = true then
                  callK (p_impl_StreamOf (⟨v37, v36⟩ : Heat) y32) fun y45 =>
                  if y45 = 1 then
                    callK (p_impl_HotPages (⟨v37, v36⟩ : Heat)) fun y47 =>
                    some ((y47.length : Int) == 1)
                  else
                    some false
                else
                  some false
              else
                some false) NN (y31.2.1, y33, y31.1, y31.2.2)
      else
        some false

theorem L_laws_FnStreams (a_0 : List Int) {r : Bool} (h : p_laws_FnStreams a_0 = some r) : callL E 5 [.d (.arr (a_0.map rU))] ([] : Fo) = some (BO r, ([] : Fo)) := by
  unfold p_laws_FnStreams at h
  refine callW (fu := Try.f5) rfl rfl rfl NN ?_
  intro lp cl hlp hcl
  conv => lhs; whnf
  obtain ⟨y1, h_y1, h⟩ := callK_inv h
  rw [cl_eq hcl (L_laws_c2Big a_0 ([] : List Int) h_y1)]
  rotate_left
  · show _ = _
    kernel_rfl
  · show _ = _
    kernel_rfl
  conv => lhs; whnf
  cases hb2 : y1
  · replace h := ifF h (booF hb2)
    conv => lhs; whnf
    obtain ⟨y3, h_y3, h⟩ := callK_inv h
    rw [cl_eq hcl (L_spec_DrawNoteWrite a_0 h_y3)]
    rotate_left
    · show _ = _
      kernel_rfl
    · show _ = _
      kernel_rfl
    conv => lhs; whnf
    obtain ⟨y4, h_y4, h⟩ := callK_inv h
    rw [cl_eq hcl (L_impl_NoteWrite (⟨y3.2.2, y3.1⟩ : Heat) y3.2.1 h_y4)]
    rotate_left
    · show _ = _
      kernel_rfl
    · show _ = _
      kernel_rfl
    conv => lhs; whnf
    obtain ⟨y5, h_y5, h⟩ := callK_inv h
    rw [cl_eq hcl (L_spec_NoteWrite (⟨y3.2.2, y3.1⟩ : Heat) y3.2.1 h_y5)]
    rotate_left
    · show _ = _
      kernel_rfl
    · show _ = _
      kernel_rfl
    conv => lhs; whnf
    cases hb6 : (y4.2.1 != y5.2)
    · replace h := ifF h ((fun h => not_not_intro (bneF h)) hb6)
      conv => lhs; whnf
      try (rw [hb6]; conv => lhs; whnf)
      try (rw [hb6]; conv => lhs; whnf)
      obtain ⟨y7, h_y7, h⟩ := callK_inv h
      rw [cl_eq hcl (L_spec_SameHeat (⟨y4.2.2, y4.1⟩ : Heat) y5.1 h_y7)]
      rotate_left
      · show _ = _
        kernel_rfl
      · show _ = _
        kernel_rfl
      conv => lhs; whnf
      try (rw [hb6]; conv => lhs; whnf)
      try (rw [hb6]; conv => lhs; whnf)
      cases hb8 : y7
      · replace h := ifF h (booF hb8)
        conv => lhs; whnf
        obtain rfl := Option.some.inj h
        show _ = _
        kernel_rfl
      · replace h := ifT h hb8
        conv => lhs; whnf
        obtain ⟨y9, h_y9, h⟩ := callK_inv h
        rw [cl_eq hcl (L_impl_HotPages (⟨y3.2.2, y3.1⟩ : Heat) h_y9)]
        rotate_left
        · show _ = _
          kernel_rfl
        · show _ = _
          kernel_rfl
        conv => lhs; whnf
        try rw [len_of (l := y9) (r := rI)]
        try rw [len_of (l := y3.2.2) (r := rI)]
        cases hb10 : (decide ((IntKind.i64.wrap (2 * (y9.length : Int))) ≥ (y3.2.2.length : Int)))
        · replace h := ifF h (decF hb10)
          conv => lhs; whnf
          try (rw [hb10]; conv => lhs; whnf)
          try (rw [hb10]; conv => lhs; whnf)
          try (rw [hb10]; conv => lhs; whnf)
          obtain ⟨y30, h_y30, h⟩ := callK_inv h
          rw [cl_eq hcl (L_laws_c2At a_0 0 6 h_y30)]
          rotate_left
          · show _ = _
            kernel_rfl
          · show _ = _
            kernel_rfl
          conv => lhs; whnf
          obtain ⟨y31, h_y31, h⟩ := callK_inv h
          rw [cl_eq hcl (L_impl_NewHeat (IntKind.i64.wrap (3 + y30)) h_y31)]
          rotate_left
          · show _ = _
            kernel_rfl
          · show _ = _
            kernel_rfl
          conv => lhs; whnf
          obtain ⟨y32, h_y32, h⟩ := callK_inv h
          rw [cl_eq hcl (L_laws_c2At a_0 1 (IntKind.i64.wrap (3 + y30)) h_y32)]
          rotate_left
          · show _ = _
            kernel_rfl
          · show _ = _
            kernel_rfl
          conv => lhs; whnf
          obtain ⟨y33, h_y33, h⟩ := callK_inv h
          rw [cl_eq hcl (L_laws_c2At a_0 2 30 h_y33)]
          rotate_left
          · show _ = _
            kernel_rfl
          · show _ = _
            kernel_rfl
          conv => lhs; whnf
          refine loop_iter hlp (fun ((v34, v35, v36, v37) : (Int × Int × Int × (List Int))) => ([.dead, .dead, .dead, .dead, .dead, .dead, .dead, .dead, .dead, .dead, .dead, .bp 0 0, IN v34, IN y32, IN v35] ++ List.replicate 88 .dead : List V)) (fun ((v34, v35, v36, v37) : (Int × Int × Int × (List Int))) => ([some (.box [.sl 1, IN v36]), some (.arr 2 1 (v37.map rI))] : Fo)) (fun (r : Bool) => ((BO r : V), ([] : Fo))) ?_ (y31.2.1, y33, y31.1, y31.2.2) _ (fun kk => by kernel_rfl) h
          clear h
          rintro next_nx38 nx38 hnx38 ⟨v34, v35, v36, v37⟩ r h
          try dsimp only at h
          conv => lhs; whnf
          cases hb39 : (decide (v35 ≥ 0))
          · replace h := ifF h (decF hb39)
            conv => lhs; whnf
            try (rw [hb39]; conv => lhs; whnf)
            try (rw [hb39]; conv => lhs; whnf)
            cases hb42 : (v34 == 0)
            · replace h := ifF h (beqF hb42)
              conv => lhs; whnf
              try (rw [hb42]; conv => lhs; whnf)
              try (rw [hb42]; conv => lhs; whnf)
              try (rw [hb42]; conv => lhs; whnf)
              obtain rfl := Option.some.inj h
              show _ = _
              kernel_rfl
            · replace h := ifT h (beqT hb42)
              conv => lhs; whnf
              try (rw [hb42]; conv => lhs; whnf)
              try (rw [hb42]; conv => lhs; whnf)
              obtain ⟨y43, h_y43, h⟩ := callK_inv h
              rw [cl_eq hcl (L_impl_IsHot (⟨v37, v36⟩ : Heat) y32 h_y43)]
              rotate_left
              · show _ = _
                kernel_rfl
              · show _ = _
                kernel_rfl
              conv => lhs; whnf
              try (rw [hb42]; conv => lhs; whnf)
              cases hb44 : y43
              · replace h := ifF h (booF hb44)
                conv => lhs; whnf
                try (rw [hb44]; conv => lhs; whnf)
                try (rw [hb44]; conv => lhs; whnf)
                try (rw [hb44]; conv => lhs; whnf)
                try (rw [hb44]; conv => lhs; whnf)
                obtain rfl := Option.some.inj h
                show _ = _
                kernel_rfl
              · replace h := ifT h hb44
                conv => lhs; whnf
                try (rw [hb44]; conv => lhs; whnf)
                try (rw [hb44]; conv => lhs; whnf)
                obtain ⟨y45, h_y45, h⟩ := callK_inv h
                rw [cl_eq hcl (L_impl_StreamOf (⟨v37, v36⟩ : Heat) y32 h_y45)]
                rotate_left
                · show _ = _
                  kernel_rfl
                · show _ = _
                  kernel_rfl
                conv => lhs; whnf
                try (rw [hb44]; conv => lhs; whnf)
                try (rw [hb44]; conv => lhs; whnf)
                cases hb46 : (y45 == 1)
                · replace h := ifF h (beqF hb46)
                  conv => lhs; whnf
                  try (rw [hb46]; conv => lhs; whnf)
                  try (rw [hb46]; conv => lhs; whnf)
                  try (rw [hb46]; conv => lhs; whnf)
                  try (rw [hb46]; conv => lhs; whnf)
                  obtain rfl := Option.some.inj h
                  show _ = _
                  kernel_rfl
                · replace h := ifT h (beqT hb46)
                  conv => lhs; whnf
                  try (rw [hb46]; conv => lhs; whnf)
                  obtain ⟨y47, h_y47, h⟩ := callK_inv h
                  rw [cl_eq hcl (L_impl_HotPages (⟨v37, v36⟩ : Heat) h_y47)]
                  rotate_left
                  · show _ = _
                    kernel_rfl
                  · show _ = _
                    kernel_rfl
                  conv => lhs; whnf
                  try (rw [hb46]; conv => lhs; whnf)
                  try rw [len_of (l := y47) (r := rI)]
                  try (rw [hb46]; conv => lhs; whnf)
                  try (rw [hb46]; conv => lhs; whnf)
                  obtain rfl := Option.some.inj h
                  show _ = _
                  kernel_rfl
          · replace h := ifT h (decT hb39)
            conv => lhs; whnf
            try (rw [hb39]; conv => lhs; whnf)
            try (rw [hb39]; conv => lhs; whnf)
            cases hb40 : (v34 == 0)
            · replace h := ifF h (beqF hb40)
              conv => lhs; whnf
              try (rw [hb40]; conv => lhs; whnf)
              try (rw [hb40]; conv => lhs; whnf)
              try (rw [hb40]; conv => lhs; whnf)
              try (rw [hb40]; conv => lhs; whnf)
              obtain rfl := Option.some.inj h
              show _ = _
              kernel_rfl
            · replace h := ifT h (beqT hb40)
              conv => lhs; whnf
              obtain ⟨y41, h_y41, h⟩ := callK_inv h
              rw [cl_eq hcl (L_impl_NoteWrite (⟨v37, v36⟩ : Heat) y32 h_y41)]
              rotate_left
              · show _ = _
                kernel_rfl
              · show _ = _
                kernel_rfl
              conv => lhs; whnf
              exact hnx38 _ _ _ _ (fun kk => by kernel_rfl) h
        · replace h := ifT h (decT hb10)
          conv => lhs; whnf
          try (rw [hb10]; conv => lhs; whnf)
          try rw [len_of (l := y9) (r := rI)]
          try (rw [hb10]; conv => lhs; whnf)
          try (rw [hb10]; conv => lhs; whnf)
          cases hb11 : (decide ((y9.length : Int) > 0))
          · replace h := ifF h (decF hb11)
            conv => lhs; whnf
            obtain ⟨y12, h_y12, h⟩ := callK_inv h
            rw [cl_eq hcl (L_laws_c2At a_0 0 6 h_y12)]
            rotate_left
            · show _ = _
              kernel_rfl
            · show _ = _
              kernel_rfl
            conv => lhs; whnf
            obtain ⟨y13, h_y13, h⟩ := callK_inv h
            rw [cl_eq hcl (L_impl_NewHeat (IntKind.i64.wrap (3 + y12)) h_y13)]
            rotate_left
            · show _ = _
              kernel_rfl
            · show _ = _
              kernel_rfl
            conv => lhs; whnf
            obtain ⟨y14, h_y14, h⟩ := callK_inv h
            rw [cl_eq hcl (L_laws_c2At a_0 1 (IntKind.i64.wrap (3 + y12)) h_y14)]
            rotate_left
            · show _ = _
              kernel_rfl
            · show _ = _
              kernel_rfl
            conv => lhs; whnf
            obtain ⟨y15, h_y15, h⟩ := callK_inv h
            rw [cl_eq hcl (L_laws_c2At a_0 2 30 h_y15)]
            rotate_left
            · show _ = _
              kernel_rfl
            · show _ = _
              kernel_rfl
            conv => lhs; whnf
            refine loop_iter hlp (fun ((v16, v17, v18, v19) : (Int × Int × Int × (List Int))) => ([.dead, .dead, .dead, .dead, .dead, .dead, .dead, .dead, .dead, .dead, .dead, .bp 0 0, IN v16, IN y14, IN v17] ++ List.replicate 88 .dead : List V)) (fun ((v16, v17, v18, v19) : (Int × Int × Int × (List Int))) => ([some (.box [.sl 1, IN v18]), some (.arr 2 1 (v19.map rI))] : Fo)) (fun (r : Bool) => ((BO r : V), ([] : Fo))) ?_ (y13.2.1, y15, y13.1, y13.2.2) _ (fun kk => by kernel_rfl) h
            clear h
            rintro next_nx20 nx20 hnx20 ⟨v16, v17, v18, v19⟩ r h
            try dsimp only at h
            conv => lhs; whnf
            cases hb21 : (decide (v17 ≥ 0))
            · replace h := ifF h (decF hb21)
              conv => lhs; whnf
              try (rw [hb21]; conv => lhs; whnf)
              try (rw [hb21]; conv => lhs; whnf)
              cases hb24 : (v16 == 0)
              · replace h := ifF h (beqF hb24)
                conv => lhs; whnf
                try (rw [hb24]; conv => lhs; whnf)
                try (rw [hb24]; conv => lhs; whnf)
                try (rw [hb24]; conv => lhs; whnf)
                obtain rfl := Option.some.inj h
                show _ = _
                kernel_rfl
              · replace h := ifT h (beqT hb24)
                conv => lhs; whnf
                try (rw [hb24]; conv => lhs; whnf)
                try (rw [hb24]; conv => lhs; whnf)
                obtain ⟨y25, h_y25, h⟩ := callK_inv h
                rw [cl_eq hcl (L_impl_IsHot (⟨v19, v18⟩ : Heat) y14 h_y25)]
                rotate_left
                · show _ = _
                  kernel_rfl
                · show _ = _
                  kernel_rfl
                conv => lhs; whnf
                try (rw [hb24]; conv => lhs; whnf)
                cases hb26 : y25
                · replace h := ifF h (booF hb26)
                  conv => lhs; whnf
                  try (rw [hb26]; conv => lhs; whnf)
                  try (rw [hb26]; conv => lhs; whnf)
                  try (rw [hb26]; conv => lhs; whnf)
                  try (rw [hb26]; conv => lhs; whnf)
                  obtain rfl := Option.some.inj h
                  show _ = _
                  kernel_rfl
                · replace h := ifT h hb26
                  conv => lhs; whnf
                  try (rw [hb26]; conv => lhs; whnf)
                  try (rw [hb26]; conv => lhs; whnf)
                  obtain ⟨y27, h_y27, h⟩ := callK_inv h
                  rw [cl_eq hcl (L_impl_StreamOf (⟨v19, v18⟩ : Heat) y14 h_y27)]
                  rotate_left
                  · show _ = _
                    kernel_rfl
                  · show _ = _
                    kernel_rfl
                  conv => lhs; whnf
                  try (rw [hb26]; conv => lhs; whnf)
                  try (rw [hb26]; conv => lhs; whnf)
                  cases hb28 : (y27 == 1)
                  · replace h := ifF h (beqF hb28)
                    conv => lhs; whnf
                    try (rw [hb28]; conv => lhs; whnf)
                    try (rw [hb28]; conv => lhs; whnf)
                    try (rw [hb28]; conv => lhs; whnf)
                    try (rw [hb28]; conv => lhs; whnf)
                    obtain rfl := Option.some.inj h
                    show _ = _
                    kernel_rfl
                  · replace h := ifT h (beqT hb28)
                    conv => lhs; whnf
                    try (rw [hb28]; conv => lhs; whnf)
                    obtain ⟨y29, h_y29, h⟩ := callK_inv h
                    rw [cl_eq hcl (L_impl_HotPages (⟨v19, v18⟩ : Heat) h_y29)]
                    rotate_left
                    · show _ = _
                      kernel_rfl
                    · show _ = _
                      kernel_rfl
                    conv => lhs; whnf
                    try (rw [hb28]; conv => lhs; whnf)
                    try rw [len_of (l := y29) (r := rI)]
                    try (rw [hb28]; conv => lhs; whnf)
                    try (rw [hb28]; conv => lhs; whnf)
                    obtain rfl := Option.some.inj h
                    show _ = _
                    kernel_rfl
            · replace h := ifT h (decT hb21)
              conv => lhs; whnf
              try (rw [hb21]; conv => lhs; whnf)
              try (rw [hb21]; conv => lhs; whnf)
              cases hb22 : (v16 == 0)
              · replace h := ifF h (beqF hb22)
                conv => lhs; whnf
                try (rw [hb22]; conv => lhs; whnf)
                try (rw [hb22]; conv => lhs; whnf)
                try (rw [hb22]; conv => lhs; whnf)
                try (rw [hb22]; conv => lhs; whnf)
                obtain rfl := Option.some.inj h
                show _ = _
                kernel_rfl
              · replace h := ifT h (beqT hb22)
                conv => lhs; whnf
                obtain ⟨y23, h_y23, h⟩ := callK_inv h
                rw [cl_eq hcl (L_impl_NoteWrite (⟨v19, v18⟩ : Heat) y14 h_y23)]
                rotate_left
                · show _ = _
                  kernel_rfl
                · show _ = _
                  kernel_rfl
                conv => lhs; whnf
                exact hnx20 _ _ _ _ (fun kk => by kernel_rfl) h
          · replace h := ifT h (decT hb11)
            conv => lhs; whnf
            obtain rfl := Option.some.inj h
            show _ = _
            kernel_rfl
    · replace h := ifT h (bneT hb6)
      conv => lhs; whnf
      try (rw [hb6]; conv => lhs; whnf)
      try (rw [hb6]; conv => lhs; whnf)
      try (rw [hb6]; conv => lhs; whnf)
      try (rw [hb6]; conv => lhs; whnf)
      obtain rfl := Option.some.inj h
      show _ = _
      kernel_rfl
  · replace h := ifT h hb2
    conv => lhs; whnf
    obtain rfl := Option.some.inj h
    show _ = _
    kernel_rfl
theorem amongO_ok {b : Int} {s : Sl00Src} (l : List Int) (hl : 0 < l.length) (hb : 0 ≤ b) (h : SrcOk (b + 2) s) : ∃ r s', p_spec_l00Src_among' s l = some (r, s') ∧ r ∈ l ∧ SrcOk b s' := by
  obtain ⟨r, s1, e1, ⟨b1, b2, b3⟩, o1⟩ := pick_ok (l.length : Int) hb h
  unfold p_spec_l00Src_among'
  have hr : r < (l.length : Int) := by
    rcases Nat.lt_or_ge 1 l.length with h | h
    · exact b2 (by omega)
    · have := b3 (by omega); omega
  rw [e1, callK_some, getK_in b1 hr]
  exact ⟨_, _, rfl, List.getElem_mem _, o1⟩

def hv (x : Int) : Int := IntKind.i64.wrap (Int.tdiv x 2)
def inc (x : Int) : Int := if 1000000 < IntKind.i64.wrap (x + 1) then 1000000 else IntKind.i64.wrap (x + 1)
/-- A write noted. -/
def nt (p w : Int) (c : List Int) : Int × List Int :=
  if IntKind.i64.wrap (w + 1) = 16 then (0, (c.set p.toNat (inc (c.getD p.toNat 0))).map hv) else (IntKind.i64.wrap (w + 1), c.set p.toNat (inc (c.getD p.toNat 0)))
theorem nt_len (p w : Int) (c : List Int) : (nt p w c).2.length = c.length := by unfold nt; split <;> simp
theorem getK_D {R : Type} {c : List Int} {p : Int} (h0 : 0 ≤ p) (h : p < c.length) (k : Int → Option R) : getK c p k = k (c.getD p.toNat 0) := by
  rw [getK_in h0 h]
  congr 1
  have : p.toNat < c.length := by omega
  simp [List.getD, this]
theorem pl_min (x : Int) : p_spec_l00Min x 1000000 = some (if 1000000 < x then 1000000 else x) := by
  unfold p_spec_l00Min
  split <;> split <;> (first | rfl | (congr 1; omega) | omega)
theorem pl_decay (w : Int) (l : List Int) (h : l.length ≤ 64) : p_spec_l13Decay w l = some (0, l.map hv) := by
  unfold p_spec_l13Decay
  rw [grd_pos (by omega)]
  refine forK_rule (fun i v => v = (l.take i).map hv) (fun i hi v hv' nx hnx => ?_) (fun v hv' => by subst hv'; simp) _ (by simp)
  subst hv'
  rw [grd_pos (appOk_of _ _ (by simp; omega))]
  refine hnx _ ?_
  rw [List.take_succ_eq_append_getElem hi, List.map_append]; rfl
theorem pl_own (l : List Int) (h : l.length ≤ 64) : p_spec_l00Own l = some () := by unfold p_spec_l00Own; rw [grd_pos (appOk_of _ _ (by omega))]
theorem pl_own' (l : List Int) (h : l.length ≤ 64) : p_spec_l00Own' l = some () := by unfold p_spec_l00Own'; rw [grd_pos (appOk_of _ _ (by omega))]
theorem pl_n {p w : Int} {c : List Int} (h0 : 0 ≤ p) (h1 : p < c.length) (hl : c.length ≤ 64) : p_spec_l13Note p w c = some (nt p w c) := by
  unfold p_spec_l13Note nt
  rw [pl_own c hl, callK_some, getK_D h0 h1, pl_min, callK_some]
  by_cases h : IntKind.i64.wrap (w + 1) = 16
  · rw [if_pos h, if_pos h, pl_decay _ _ (by simp; omega), callK_some]; rfl
  · rw [if_neg h, if_neg h]; rfl
theorem pl_n' {p : Int} {x : Heat} (h0 : 0 ≤ p) (h1 : p < x.Counts.length) (hl : x.Counts.length ≤ 64) : p_spec_l13Note' p x = some (nt p x.Writes x.Counts) := by
  unfold p_spec_l13Note' nt
  rw [pl_own' _ hl, callK_some, getK_D h0 h1, pl_min, callK_some]
  by_cases h : IntKind.i64.wrap (x.Writes + 1) = 16
  · rw [if_pos h, if_pos h, pl_decay _ _ (by simp; omega), callK_some]; rfl
  · rw [if_neg h, if_neg h]; rfl
theorem pl_dec (x : Heat) (hl : x.Counts.length ≤ 64) : p_impl_Heat_decayed x = some (0, x.Counts.map hv) := by
  unfold p_impl_Heat_decayed
  rw [grd_pos (appOk_of _ _ (by omega)), grd_pos (by omega), forK_upd (fun x => IntKind.i64.wrap (Int.tdiv x 2)) (fun i x v nx => rfl)]
  rfl
theorem pl_in {p : Int} {x : Heat} (h0 : 0 ≤ p) (h1 : p < x.Counts.length) (hl : x.Counts.length ≤ 64) : p_impl_Heat_note x p = some (nt p x.Writes x.Counts) := by
  unfold p_impl_Heat_note nt
  rw [grd_pos (appOk_of _ _ (by omega)), getK_D h0 h1]
  by_cases h : IntKind.i64.wrap (x.Writes + 1) = 16
  · rw [if_pos h, if_pos h, pl_dec _ (by simp; omega), callK_some]; rfl
  · rw [if_neg h, if_neg h]; rfl
def okH (h : Heat) : Bool := inR (h.Counts.length : Int) 1 48 && (h.Counts.all (fun x => inR x 0 1000000) && inR h.Writes 0 15)
theorem okH_iff {h : Heat} : okH h = true ↔ (1 ≤ (h.Counts.length : Int) ∧ (h.Counts.length : Int) ≤ 48) ∧ (∀ x ∈ h.Counts, 0 ≤ x ∧ x ≤ 1000000) ∧ (0 ≤ h.Writes ∧ h.Writes ≤ 15) := by
  unfold okH
  simp only [Bool.and_eq_true, List.all_eq_true, inR_iff]
theorem any_not {α : Type} (p : α → Bool) (l : List α) : (!l.any (fun x => !p x)) = l.all p := by rw [List.not_any_eq_all_not]; simp
theorem pl_within1 (x a b : Int) : p_impl_allWithin_c1 x a b = some (!inR x a b) := by unfold p_impl_allWithin_c1; simp
theorem pl_allW (l : List Int) (a b : Int) (h : l.length < 1000) : p_impl_allWithin l a b = some (l.all fun x => inR x a b) := by
  unfold p_impl_allWithin p_slices_ContainsFunc_impl_allWithin_c1 p_slices_IndexFunc_impl_allWithin_c1
  rw [grd_pos (by omega), forK_idx (p := fun x => !inR x a b) (fun x => pl_within1 x a b)]
  simp only [callK_some, idxP_any, any_not]
theorem pl_iOk (h : Heat) : p_impl_ValidHeat h = some (okH h) := by
  unfold p_impl_ValidHeat okH
  cases hc : inR (h.Counts.length : Int) 1 48
  · rfl
  have := inR_iff.mp hc
  rw [if_pos rfl, pl_allW _ _ _ (by omega), callK_some]
  cases h.Counts.all (fun x => inR x 0 1000000) <;> rfl
theorem pl_sOk (h : Heat) : p_spec_l13Ok h = some (okH h) := by
  unfold p_spec_l13Ok okH
  by_cases h1 : (h.Counts.length : Int) < 1
  · rw [if_pos h1, inR_not.mpr (by omega)]; rfl
  rw [if_neg h1]
  by_cases h2 : (h.Counts.length : Int) > 48
  · rw [if_pos h2, inR_not.mpr (by omega)]; rfl
  rw [if_neg h2, show inR (h.Counts.length : Int) 1 48 = true from inR_iff.mpr (by omega)]
  cases inR h.Writes 0 15
  · simp
  rw [if_pos rfl, grd_pos (by omega), forK_all (fun x => inR x 0 1000000) (some false) (fun i x nx => rfl)]
  cases h.Counts.all (fun x => inR x 0 1000000) <;> rfl
def nw (h : Heat) (p : Int) : Heat × Int := if okH h = true then if inR p 0 ((h.Counts.length : Int) - 1) = true then (⟨(nt p h.Writes h.Counts).2, (nt p h.Writes h.Counts).1⟩, 0) else (⟨[], 0⟩, 2) else (⟨[], 0⟩, 1)
theorem nw_len (h : Heat) (p : Int) : (nw h p).1.Counts.length ≤ 48 := by
  unfold nw
  split
  · rename_i h1
    split
    · have := (okH_iff.mp h1).1
      show (nt p h.Writes h.Counts).2.length ≤ 48
      rw [nt_len]; omega
    · simp
  · simp
theorem pl_iNW (h : Heat) (p : Int) : p_impl_NoteWrite h p = some ((nw h p).1.Writes, (nw h p).2, (nw h p).1.Counts) := by
  unfold p_impl_NoteWrite nw
  rw [pl_iOk, callK_some]
  cases ho : okH h
  · rfl
  obtain ⟨h1, _⟩ := okH_iff.mp ho
  rw [if_pos rfl, if_pos rfl]
  unfold p_impl_isIndex
  rw [wrap_sm _ (by omega) (by omega), callK_some]
  cases hp : inR p 0 ((h.Counts.length : Int) - 1)
  · rfl
  have hp := inR_iff.mp hp
  rw [if_pos rfl, if_pos rfl, pl_in hp.1 (by omega) (by omega), callK_some]
theorem pl_sNW (h : Heat) (p : Int) : p_spec_NoteWrite h p = some (nw h p) := by
  unfold p_spec_NoteWrite nw
  rw [pl_sOk, callK_some]
  cases ho : okH h
  · rfl
  obtain ⟨h1, _⟩ := okH_iff.mp ho
  rw [if_pos rfl, if_pos rfl, wrap_sm _ (by omega) (by omega)]
  cases hp : inR p 0 ((h.Counts.length : Int) - 1)
  · rfl
  have hp := inR_iff.mp hp
  rw [if_pos rfl, if_pos rfl, pl_n' hp.1 (by omega) (by omega), callK_some]
theorem pl_same (l : List Int) (h : l.length < 4611686018427387904) : p_spec_l00Same l l = some true := by
  unfold p_spec_l00Same
  rw [if_neg (by simp), grd_pos h]
  refine forK_rule (fun _ _ => True) (fun i hi _ _ nx hnx => ?_) (fun _ _ => rfl) _ trivial
  rw [getK_lt hi, if_neg (by simp)]
  exact hnx _ trivial
theorem pl_sameH (x : Heat) (h : x.Counts.length ≤ 48) : p_spec_SameHeat x x = some true := by
  unfold p_spec_SameHeat
  rw [pl_same _ (by omega), callK_some, if_pos rfl]
  simp
theorem sum_go : ∀ (l : List Int) (v : Int), (∀ x ∈ l, 0 ≤ x ∧ x ≤ 1000000) → 0 ≤ v → v + 1000000 * (l.length : Int) ≤ 1000000000000 → l.foldl (fun v x => IntKind.i64.wrap (v + x)) v = v + l.sum ∧ 0 ≤ l.sum ∧ l.sum ≤ 1000000 * (l.length : Int)
  | [], v, h, h0, h1 => by simp
  | a :: l, v, h, h0, h1 => by
    have ha := h a (by simp)
    rw [List.length_cons] at h1
    obtain ⟨g1, g2, g3⟩ := sum_go l (v + a) (fun x hx => h x (by simp [hx])) (by omega) (by omega)
    rw [List.foldl_cons, wrap_sm (v + a) (by omega) (by omega), g1, List.sum_cons, List.length_cons]
    exact ⟨by omega, by omega, by omega⟩
def hotB (l : List Int) (x : Int) : Bool := decide (x * (l.length : Int) > 2 * l.sum)
theorem pl_hot {h : Heat} (ho : okH h = true) {i : Int} (h0 : 0 ≤ i) (h1 : i < h.Counts.length) : p_impl_Heat_hot h i = some (hotB h.Counts (h.Counts.getD i.toNat 0)) := by
  obtain ⟨a1, a2, a3⟩ := okH_iff.mp ho
  obtain ⟨g1, g2, g3⟩ := sum_go h.Counts 0 a2 (by omega) (by omega)
  unfold p_impl_Heat_hot hotB
  rw [grd_pos (by omega), forK_foldl (fun v x => IntKind.i64.wrap (v + x)) (fun i x s nx => rfl), g1, getK_D h0 h1]
  have hx : 0 ≤ h.Counts.getD i.toNat 0 ∧ h.Counts.getD i.toNat 0 ≤ 1000000 := by
    have hi : i.toNat < h.Counts.length := by omega
    have e : h.Counts.getD i.toNat 0 = h.Counts[i.toNat] := by simp [List.getD, hi]
    rw [e]; exact a2 _ (List.getElem_mem hi)
  generalize h.Counts.getD i.toNat 0 = x at hx
  have b1 : 0 ≤ x * (h.Counts.length : Int) := Int.mul_nonneg hx.1 (by omega)
  have b2 : x * (h.Counts.length : Int) ≤ 1000000 * 48 := Int.mul_le_mul hx.2 a1.2 (by omega) (by omega)
  rw [wrap_sm _ (by omega) (by omega), wrap_sm _ (by omega) (by omega), Int.zero_add]
theorem pl_hots {h : Heat} (ho : okH h = true) : ∃ r, p_impl_HotPages h = some r ∧ r.length = h.Counts.countP (hotB h.Counts) := by
  obtain ⟨a1, a2, a3⟩ := okH_iff.mp ho
  unfold p_impl_HotPages
  rw [pl_iOk, callK_some, ho, if_pos rfl, grd_pos (by omega)]
  refine forK_ex (Q := fun r : List Int => r.length = h.Counts.countP (hotB h.Counts)) (fun i v => v.length = (h.Counts.take i).countP (hotB h.Counts)) (fun i hi v hv nx hnx => ?_) (fun v hv => ⟨_, rfl, by rw [hv, List.take_length]⟩) _ (by simp)
  rw [pl_hot ho (by omega) (by omega), callK_some, Int.toNat_natCast]
  have e : h.Counts.getD i 0 = h.Counts[i] := by simp [List.getD, hi]
  rw [e]
  have hs : (h.Counts.take (i + 1)).countP (hotB h.Counts) = (h.Counts.take i).countP (hotB h.Counts) + if hotB h.Counts h.Counts[i] = true then 1 else 0 := by
    rw [List.take_succ_eq_append_getElem hi, List.countP_append, List.countP_singleton]
  have hle : (h.Counts.take i).countP (hotB h.Counts) ≤ 48 := by
    have := List.countP_le_length (p := hotB h.Counts) (l := h.Counts.take i)
    simp at this; omega
  by_cases hb : hotB h.Counts h.Counts[i] = true
  · rw [if_pos hb, grd_pos (appOk_of _ _ (by omega))]
    refine hnx _ ?_
    rw [hs, if_pos hb, List.length_append, hv]; rfl
  · rw [if_neg hb]
    refine hnx _ ?_
    rw [hs, if_neg hb, hv]; rfl
theorem hot_go (n S : Int) (hn : 0 ≤ n) : ∀ l : List Int, (∀ x ∈ l, 0 ≤ x) → (l.countP (fun x => decide (x * n > 2 * S)) : Int) * (2 * S + 1) ≤ n * l.sum
  | [], h => by simp
  | a :: l, h => by
    have ih := hot_go n S hn l (fun x hx => h x (by simp [hx]))
    have ha : 0 ≤ n * a := Int.mul_nonneg hn (h a (by simp))
    rw [List.sum_cons, Int.mul_add n a]
    by_cases hb : a * n > 2 * S
    · rw [List.countP_cons_of_pos (by simpa using hb)]
      generalize l.countP (fun x => decide (x * n > 2 * S)) = c at ih ⊢
      have e : ((c + 1 : Nat) : Int) * (2 * S + 1) = (c : Int) * (2 * S + 1) + (2 * S + 1) := by rw [Int.natCast_add, Int.add_mul]; simp
      rw [e]
      have hb' : n * a > 2 * S := by rw [Int.mul_comm]; exact hb
      generalize (c : Int) * (2 * S + 1) = u at *
      omega
    · rw [List.countP_cons_of_neg (by simpa using hb)]
      generalize ((l.countP (fun x => decide (x * n > 2 * S)) : Nat) : Int) * (2 * S + 1) = u at *
      omega
theorem hot_le {l : List Int} (h : ∀ x ∈ l, 0 ≤ x) (hS : 0 ≤ l.sum) (h0 : 2 * (l.countP (hotB l) : Int) ≥ l.length) : l.countP (hotB l) = 0 := by
  have h1 := hot_go l.length l.sum (by omega) l h
  have h2 : l.countP (fun x => decide (x * (l.length : Int) > 2 * l.sum)) = l.countP (hotB l) := rfl
  rw [h2] at h1
  generalize l.countP (hotB l) = c at *
  have h3 := Int.mul_le_mul_of_nonneg_right h0 hS
  have h4 : (c : Int) * (2 * l.sum + 1) = 2 * (c : Int) * l.sum + c := by
    rw [Int.mul_add, Int.mul_one, ← Int.mul_assoc, Int.mul_comm (c : Int) 2]
  omega
theorem at_ok (code : List Int) (hk : ∀ x ∈ code, 0 ≤ x ∧ x ≤ 255) {i m : Int} (h0 : 0 ≤ i) (h1 : i ≤ 1000) (h2 : 1 ≤ m) : ∃ r, p_laws_c2At code i m = some r ∧ 0 ≤ r ∧ r < m := by
  unfold p_laws_c2At
  by_cases hm : m ≤ 1
  · rw [if_pos hm]; exact ⟨0, rfl, by omega, by omega⟩
  rw [if_neg hm]
  by_cases hi : i < (code.length : Int)
  · rw [if_pos hi, getK_in h0 hi, grd_pos (by omega)]
    have := hk _ (List.getElem_mem (show i.toNat < code.length by omega))
    rw [wrap_sm _ (by omega) (by omega)]
    exact ⟨_, rfl, Int.tmod_nonneg _ (by omega), Int.tmod_lt_of_pos _ (by omega)⟩
  · rw [if_neg hi, grd_pos (by omega), wrap_sm (i * 29) (by omega) (by omega), wrap_sm (i * 29 + 5) (by omega) (by omega)]
    exact ⟨_, rfl, Int.tmod_nonneg _ (by omega), Int.tmod_lt_of_pos _ (by omega)⟩
/-- One page alone was written. -/
def one (n : Nat) (p : Int) (c : Int) : List Int := (List.replicate n 0).set p.toNat c
theorem one_len (n : Nat) (p c : Int) : (one n p c).length = n := by simp [one]
theorem one_get {n : Nat} {p : Int} (c : Int) (h0 : 0 ≤ p) (h : p < n) : (one n p c).getD p.toNat 0 = c := by
  have : p.toNat < n := by omega
  simp [one, List.getD, this]
theorem set_sum (c : Int) : ∀ (n p : Nat), p < n → ((List.replicate n (0 : Int)).set p c).sum = c
  | n + 1, 0, h => by
    have : ∀ n : Nat, (List.replicate n (0 : Int)).sum = 0 := fun n => by
      induction n with
      | zero => rfl
      | succ n ih => rw [List.replicate_succ, List.sum_cons, ih]; rfl
    rw [List.replicate_succ, List.set_cons_zero, List.sum_cons, this]; omega
  | n + 1, p + 1, h => by rw [List.replicate_succ, List.set_cons_succ, List.sum_cons, set_sum c n p (by omega)]; omega
theorem one_sum {n : Nat} {p : Int} (c : Int) (h0 : 0 ≤ p) (h : p < n) : (one n p c).sum = c := set_sum c n p.toNat (by omega)
theorem one_mem {n : Nat} {p c x : Int} (h : x ∈ one n p c) : x = 0 ∨ x = c := by
  unfold one at h
  rcases List.mem_or_eq_of_mem_set h with h | h
  · exact .inl (List.eq_of_mem_replicate h)
  · exact .inr h
theorem one_set {n : Nat} {p : Int} (c d : Int) : (one n p c).set p.toNat d = one n p d := by unfold one; rw [List.set_set]
theorem one_map {n : Nat} {p : Int} (c : Int) : (one n p c).map hv = one n p (hv c) := by
  unfold one
  rw [List.map_set, List.map_replicate]; rfl
theorem hv_nn {c : Int} (h0 : 0 ≤ c) (h1 : c ≤ 1000000) : hv c = c / 2 := by
  unfold hv
  rw [Int.tdiv_eq_ediv_of_nonneg h0, wrap_sm _ (by omega) (by omega)]
theorem inc_nn {c : Int} (h0 : 0 ≤ c) (h1 : c ≤ 1000) : inc c = c + 1 := by
  unfold inc
  rw [wrap_sm _ (by omega) (by omega), if_neg (by omega)]
theorem one_ok' {n : Nat} {p c w : Int} (hn : 3 ≤ n) (hn2 : n ≤ 48) (h0 : 0 ≤ c) (h1 : c ≤ 1000) (h2 : 0 ≤ w) (h3 : w ≤ 15) : okH ⟨one n p c, w⟩ = true := by
  refine okH_iff.mpr ⟨by simp only [one_len]; omega, fun x hx => ?_, ⟨h2, h3⟩⟩
  rcases one_mem hx with rfl | rfl <;> omega
theorem one_cnt {n : Nat} {p c : Int} (hn : 3 ≤ n) (h0 : 0 ≤ p) (h : p < n) (hc : 1 ≤ c) : (one n p c).countP (hotB (one n p c)) = 1 ∧ hotB (one n p c) c = true := by
  have hs := one_sum c h0 h
  have a : hotB (one n p c) 0 = false := by unfold hotB; rw [hs, one_len]; simp; omega
  have b : hotB (one n p c) c = true := by
    unfold hotB
    rw [hs, one_len]
    have := Int.mul_le_mul_of_nonneg_left (show (3 : Int) ≤ (n : Int) by omega) (show 0 ≤ c by omega)
    simp; omega
  refine ⟨?_, b⟩
  generalize hotB (one n p c) = q at a b
  unfold one
  rw [List.countP_set (by simp; omega), List.countP_replicate]
  simp [a, b]
theorem pl_tail {n : Nat} {p : Int} (hn : 3 ≤ n) (hn2 : n ≤ 48) (h0 : 0 ≤ p) (h : p < n) {c w : Int} (hc : 1 ≤ c) (hc2 : c ≤ 1000) (h2 : 0 ≤ w) (h3 : w ≤ 15) :
    p_impl_IsHot ⟨one n p c, w⟩ p = some true ∧ p_impl_StreamOf ⟨one n p c, w⟩ p = some 1 ∧ ∃ r, p_impl_HotPages ⟨one n p c, w⟩ = some r ∧ r.length = 1 := by
  have ho := one_ok' (p := p) hn hn2 (show 0 ≤ c by omega) hc2 h2 h3
  have hcnt := one_cnt hn h0 h hc
  have e1 : p_impl_IsHot ⟨one n p c, w⟩ p = some true := by
    unfold p_impl_IsHot
    rw [pl_iOk, callK_some, ho, if_pos rfl]
    unfold p_impl_isIndex
    dsimp only
    rw [one_len, wrap_sm _ (by omega) (by omega), callK_some, inR_iff.mpr (by omega), if_pos rfl, pl_hot ho h0 (by dsimp only; rw [one_len]; omega), callK_some]
    dsimp only
    rw [one_get c h0 h, hcnt.2]
  refine ⟨e1, ?_, ?_⟩
  · unfold p_impl_StreamOf
    rw [e1, callK_some]; rfl
  · obtain ⟨r, r1, r2⟩ := pl_hots ho
    exact ⟨r, r1, r2.trans hcnt.1⟩
noncomputable def tailP (a_0 : List Int) : Option Bool :=
  callK (p_laws_c2At a_0 0 6) fun y12 =>
  callK (p_impl_NewHeat (IntKind.i64.wrap (3 + y12))) fun y13 =>
  callK (p_laws_c2At a_0 1 (IntKind.i64.wrap (3 + y12))) fun y14 =>
  callK (p_laws_c2At a_0 2 30) fun y15 =>
  iterK (fun ((v16, v17, v18, v19) : (Int × Int × Int × (List Int))) (nx20 : (Int × Int × Int × (List Int)) → Option _) =>
    if v17 ≥ 0 then
      if v16 = 0 then
        callK (p_impl_NoteWrite (⟨v19, v18⟩ : Heat) y14) fun y23 =>
        nx20 (y23.2.1, (IntKind.i64.wrap (v17 - 1)), y23.1, y23.2.2)
      else
        some false
    else
      if v16 = 0 then
        callK (p_impl_IsHot (⟨v19, v18⟩ : Heat) y14) fun y25 =>
        if y25 = true then
          callK (p_impl_StreamOf (⟨v19, v18⟩ : Heat) y14) fun y27 =>
          if y27 = 1 then
            callK (p_impl_HotPages (⟨v19, v18⟩ : Heat)) fun y29 =>
            some ((y29.length : Int) == 1)
          else
            some false
        else
          some false
      else
        some false) NN (y13.2.1, y15, y13.1, y13.2.2)
theorem one_zero (n : Nat) (p : Int) : List.replicate n 0 = one n p 0 := by
  unfold one
  refine List.ext_getElem (by simp) fun i h1 h2 => ?_
  simp [List.getElem_set]
theorem pl_tailP (code : List Int) (hk : ∀ x ∈ code, 0 ≤ x ∧ x ≤ 255) : tailP code = some true := by
  unfold tailP
  obtain ⟨a, ea, a0, a1⟩ := at_ok code hk (i := 0) (m := 6) (by omega) (by omega) (by omega)
  rw [ea, callK_some, wrap_sm (3 + a) (by omega) (by omega)]
  have eN : p_impl_NewHeat (3 + a) = some (0, 0, List.replicate (3 + a).toNat (0 : Int)) := by
    unfold p_impl_NewHeat
    have := mkOk_nat (3 + a).toNat 8 1 (by omega) rfl rfl
    rw [show (((3 + a).toNat : Nat) : Int) = 3 + a by omega] at this
    rw [if_pos (inR_iff.mpr (by omega)), grd_pos this]
  obtain ⟨p, ep, p0, p1⟩ := at_ok code hk (i := 1) (m := 3 + a) (by omega) (by omega) (by omega)
  obtain ⟨k, ek, k0, k1⟩ := at_ok code hk (i := 2) (m := 30) (by omega) (by omega) (by omega)
  rw [eN, callK_some, ep, callK_some, ek, callK_some]
  dsimp only
  generalize hn : (3 + a).toNat = n
  have n3 : 3 ≤ n := by omega
  have n8 : n ≤ 48 := by omega
  have pn : p < n := by omega
  refine iterK_rule (fun d (s : Int × Int × Int × List Int) => ∃ c, s.1 = 0 ∧ s.2.1 = (d : Int) - 1 ∧ 0 ≤ s.2.2.1 ∧ s.2.2.1 ≤ 15 ∧ s.2.2.2 = one n p c ∧ 0 ≤ c ∧ c ≤ 100 - (d : Int) ∧ (1 ≤ c ∨ (s.2.2.1 = 0 ∧ 1 ≤ d)) ∧ d ≤ 50) ?_ (k + 1).toNat _ (by unfold NN; omega)
    ⟨0, rfl, by dsimp only; omega, by dsimp only; omega, by dsimp only; omega, one_zero n p, by omega, by omega, .inr ⟨rfl, by omega⟩, by omega⟩
  rintro d ⟨v16, v17, v18, v19⟩ ⟨c, h1, h2, h3, h4, h5, h6, h7, h8, h9⟩ nx hnx
  dsimp only at h1 h2 h3 h4 h5 h6 h7 h8 h9 hnx ⊢
  subst h1 h5
  by_cases hvv : v17 ≥ 0
  · have enw : nw ⟨one n p c, v18⟩ p = (⟨(nt p v18 (one n p c)).2, (nt p v18 (one n p c)).1⟩, 0) := by
      unfold nw
      rw [if_pos (one_ok' n3 n8 h6 (by omega) h3 h4), if_pos (inR_iff.mpr ⟨p0, by dsimp only; rw [one_len]; omega⟩)]
    rw [if_pos hvv, if_pos rfl, pl_iNW, callK_some, enw]
    dsimp only
    by_cases hw : v18 = 15
    · have e : nt p v18 (one n p c) = (0, one n p ((c + 1) / 2)) := by
        unfold nt
        rw [if_pos (by rw [hw]; decide), one_get c p0 pn, inc_nn h6 (by omega), one_set, one_map, hv_nn (by omega) (by omega)]
      rw [e]
      exact hnx (d - 1) _ (by omega) ⟨(c + 1) / 2, rfl, by dsimp only; rw [wrap_sm _ (by omega) (by omega)]; omega, by dsimp only; omega, by dsimp only; omega, rfl, by omega, by omega, .inl (by omega), by omega⟩
    · have e : nt p v18 (one n p c) = (v18 + 1, one n p (c + 1)) := by
        unfold nt
        rw [wrap_sm (v18 + 1) (by omega) (by omega), if_neg (by omega), one_get c p0 pn, inc_nn h6 (by omega), one_set]
      rw [e]
      exact hnx (d - 1) _ (by omega) ⟨c + 1, rfl, by dsimp only; rw [wrap_sm _ (by omega) (by omega)]; omega, by dsimp only; omega, by dsimp only; omega, rfl, by omega, by omega, .inl (by omega), by omega⟩
  · obtain ⟨t1, t2, r, t3, t4⟩ := pl_tail (w := v18) n3 n8 p0 pn (show 1 ≤ c by omega) (by omega) h3 h4
    rw [if_neg hvv, if_pos rfl, t1, callK_some, if_pos rfl, t2, callK_some, if_pos rfl, t3, callK_some, t4]
    rfl
theorem d13_ok {s : Sl00Src} (h : SrcOk 5000 s) : ∃ r, p_spec_l13Draw s = some r ∧ SrcOk 50 r.2.1 := by
  obtain ⟨a, s1, e1, b1, o1⟩ := pick_ok (b := 4998) 8 (by omega) (h.le (by omega))
  have b1 : 0 ≤ a ∧ a < 8 := ⟨b1.1, b1.2.1 (by omega)⟩
  have eN : p_spec_l13New (1 + a) = some (0, List.replicate (1 + a).toNat (0 : Int)) := by
    unfold p_spec_l13New
    have := mkOk_nat (1 + a).toNat 8 1 (by omega) rfl rfl
    rw [show (((1 + a).toNat : Nat) : Int) = 1 + a by omega] at this
    rw [grd_pos this]
  unfold p_spec_l13Draw
  rw [e1, callK_some]
  dsimp only
  rw [wrap_sm (1 + a) (by omega) (by omega), eN, callK_some]
  dsimp only
  rw [List.length_replicate]
  generalize hn : (1 + a).toNat = n
  have n1 : 1 ≤ n := by omega
  have n8 : n ≤ 8 := by omega
  have pk : ∀ r : Int, (0 ≤ r ∧ (1 < (n : Int) → r < n) ∧ ((n : Int) ≤ 1 → r = 0)) → 0 ≤ r ∧ r < n := fun r hr => ⟨hr.1, by
    by_cases h : 1 < (n : Int)
    · exact hr.2.1 h
    · have := hr.2.2 (by omega); omega⟩
  obtain ⟨p, s2, e2, b2, o2⟩ := pick_ok (b := 4996) (n : Int) (by omega) (o1.le (by omega))
  have b2 := pk p b2
  obtain ⟨k, s3, e3, b3, o3⟩ := pick_ok (b := 4994) 40 (by omega) (o2.le (by omega))
  have b3 : 0 ≤ k ∧ k < 40 := ⟨b3.1, b3.2.1 (by omega)⟩
  rw [e2, callK_some]
  dsimp only
  rw [e3, callK_some]
  dsimp only
  refine iterK_ex (Q := fun r : Int × Sl00Src × List Int => SrcOk 50 r.2.1) (fun d (x : Int × Sl00Src × Int × List Int) => x.1 = (d : Int) ∧ SrcOk (100 + 10 * (d : Int)) x.2.1 ∧ x.2.2.2.length = n ∧ d ≤ 40) ?_ k.toNat _ (by unfold NN; omega) ⟨by dsimp only; omega, o3.le (by omega), by simp, by omega⟩
  rintro d ⟨v5, v6, v7, v8⟩ ⟨h1, h2, h3, h4⟩ nx hnx
  dsimp only at h1 h2 h3 h4 hnx ⊢
  by_cases hv5 : v5 > 0
  · rw [if_pos hv5, h3]
    obtain ⟨q, t1, f1, c1, w1⟩ := pick_ok (b := 98 + 10 * (d : Int)) (n : Int) (by omega) (h2.le (by omega))
    have c1 := pk q c1
    obtain ⟨y, t2, f2, w2⟩ := one_ok (b := 96 + 10 * (d : Int)) 2 (by omega) (w1.le (by omega))
    rw [f1, callK_some]
    dsimp only
    rw [f2, callK_some]
    dsimp only
    split
    · rw [pl_n b2.1 (by rw [h3]; omega) (by omega), callK_some]
      exact hnx (d - 1) _ (by omega) ⟨by dsimp only; rw [wrap_sm _ (by omega) (by omega)]; omega, w2.le (by omega), by dsimp only; rw [nt_len, h3], by omega⟩
    · rw [pl_n c1.1 (by rw [h3]; omega) (by omega), callK_some]
      exact hnx (d - 1) _ (by omega) ⟨by dsimp only; rw [wrap_sm _ (by omega) (by omega)]; omega, w2.le (by omega), by dsimp only; rw [nt_len, h3], by omega⟩
  · rw [if_neg hv5]
    obtain ⟨q, t1, f1, c1, w1⟩ := pick_ok (b := 98) 14 (by omega) (h2.le (by omega))
    rw [f1, callK_some]
    dsimp only
    split
    · obtain ⟨y, t2, f2, _, w2⟩ := amongO_ok (b := 96) ([(-1), 15, 16] : List Int) (by simp) (by omega) (w1.le (by omega))
      rw [f2, callK_some]
      exact ⟨_, rfl, w2.le (by omega)⟩
    · split
      · obtain ⟨y, t2, f2, _, w2⟩ := amongO_ok (b := 96) ([(-1), 1000000, 1000001] : List Int) (by simp) (by omega) (w1.le (by omega))
        rw [f2, callK_some, getK_D b2.1 (by rw [h3]; omega)]
        exact ⟨_, rfl, w2.le (by omega)⟩
      · split
        · rw [grd_pos ⟨by omega, by omega⟩]
          exact ⟨_, rfl, w1.le (by omega)⟩
        · exact ⟨_, rfl, w1.le (by omega)⟩
theorem draw_ok {code : List Int} (h : ∀ x ∈ code, 0 ≤ x ∧ x ≤ 255) (hl : code.length ≤ 1048576) : ∃ r, p_spec_DrawNoteWrite code = some r := by
  obtain ⟨s0, e0, o0⟩ := from_ok h hl
  obtain ⟨r, e1, o1⟩ := d13_ok (o0.le (by omega))
  obtain ⟨q, s2, e2, _, o2⟩ := pick_ok (b := 48) 10 (by omega) (o1.le (by omega))
  unfold p_spec_DrawNoteWrite
  rw [e0, callK_some, e1, callK_some, e2, callK_some]
  exact ⟨_, rfl⟩
theorem pl_law (code : List Int) (hk : okL u8r code) : p_laws_FnStreams code = some true := by
  unfold p_laws_FnStreams
  rw [pl_big, callK_some]
  by_cases hl : (code.length : Int) > 1048576
  · rw [decide_eq_true hl]; rfl
  rw [decide_eq_false hl]
  obtain ⟨⟨w, p, c⟩, e⟩ := draw_ok hk.2 (by omega)
  have es := pl_sameH (nw ⟨c, w⟩ p).1 (nw_len _ _)
  rw [if_neg (by simp), e, callK_some]
  dsimp only
  rw [pl_iNW, callK_some, pl_sNW, callK_some]
  dsimp only
  rw [if_neg (by simp), show (⟨(nw ⟨c, w⟩ p).1.Counts, (nw ⟨c, w⟩ p).1.Writes⟩ : Heat) = (nw ⟨c, w⟩ p).1 from rfl, es, callK_some, if_pos rfl]
  have tl := pl_tailP code hk.2
  by_cases ho : okH ⟨c, w⟩ = true
  · obtain ⟨r, r1, r2⟩ := pl_hots ho
    obtain ⟨a1, a2, _⟩ := okH_iff.mp ho
    dsimp only at a1 a2 r2
    have hle := List.countP_le_length (p := hotB c) (l := c)
    rw [r1, callK_some, wrap_sm _ (by omega) (by omega)]
    split
    · rename_i hge
      have := hot_le (l := c) (fun x hx => (a2 x hx).1) (sum_go c 0 a2 (by omega) (by omega)).2.1 (by omega)
      rw [if_neg (by omega)]
      exact tl
    · exact tl
  · have eh : p_impl_HotPages ⟨c, w⟩ = some [] := by
      unfold p_impl_HotPages
      rw [pl_iOk, callK_some, if_neg ho]
    rw [eh, callK_some]
    split
    · rw [if_neg (by simp)]
      exact tl
    · exact tl
theorem f_law (code : List Int) (hk : okL u8r code) : callL E 5 [.d (.arr (code.map rU))] [] = some (BO true, []) := L_laws_FnStreams code (pl_law code hk)

end Go.Proofs.Ytjbddmmammgmjaa.T13

/- FnErasePasses: what its functions come to, and the row; conditions: none. -/
import Derived.Test.YtjbddmmammgmjaaT12
import Derived.Test.YtjbddmmammgmjaaEz
import Derived.Test.YtjbddmmammgmjaaRows
import Derived.WalkKit
import Derived.ProofKit
import Derived.OpenShut
import Derived.ShutString
import Derived.ChangeOld
import Derived.Below
import Derived.SizedLaws
namespace Go.Proofs.Ytjbddmmammgmjaa.T12
open Go.Proofs.YtjbddmmammgmjaaE
set_option maxRecDepth 100000
set_option linter.unusedVariables false
set_option linter.unusedSimpArgs false

noncomputable def p_spec_l00In (a_0 : Int) (a_1 : Int) (a_2 : Int) : Option Bool :=
  if a_0 ≥ a_1 then
    some (decide (a_0 ≤ a_2))
  else
    some false

theorem L_spec_l00In (a_0 : Int) (a_1 : Int) (a_2 : Int) {r : Bool} (h : p_spec_l00In a_0 a_1 a_2 = some r) : callL E 112 [IN a_0, IN a_1, IN a_2] ([] : Fo) = some (BO r, ([] : Fo)) := by
  unfold p_spec_l00In at h
  refine callW (fu := Try.f112) rfl rfl rfl NN ?_
  intro lp cl hlp hcl
  conv => lhs; whnf
  cases hb1 : (decide (a_0 ≥ a_1))
  · replace h := ifF h (decF hb1)
    conv => lhs; whnf
    obtain rfl := Option.some.inj h
    show _ = _
    kernel_rfl
  · replace h := ifT h (decT hb1)
    conv => lhs; whnf
    obtain rfl := Option.some.inj h
    show _ = _
    kernel_rfl
theorem pl_l00In (n lo hi : Int) : p_spec_l00In n lo hi = some (inR n lo hi) := by
  unfold p_spec_l00In inR
  split
  · rename_i h; simp [h]
  · rename_i h; simp [h]

noncomputable def p_impl_within (a_0 : Int) (a_1 : Int) (a_2 : Int) : Option Bool :=
  if a_0 ≥ a_1 then
    some (decide (a_0 ≤ a_2))
  else
    some false

theorem L_impl_within (a_0 : Int) (a_1 : Int) (a_2 : Int) {r : Bool} (h : p_impl_within a_0 a_1 a_2 = some r) : callL E 107 [IN a_0, IN a_1, IN a_2] ([] : Fo) = some (BO r, ([] : Fo)) := by
  unfold p_impl_within at h
  refine callW (fu := Try.f107) rfl rfl rfl NN ?_
  intro lp cl hlp hcl
  conv => lhs; whnf
  cases hb1 : (decide (a_0 ≥ a_1))
  · replace h := ifF h (decF hb1)
    conv => lhs; whnf
    obtain rfl := Option.some.inj h
    show _ = _
    kernel_rfl
  · replace h := ifT h (decT hb1)
    conv => lhs; whnf
    obtain rfl := Option.some.inj h
    show _ = _
    kernel_rfl
theorem pl_within (n lo hi : Int) : p_impl_within n lo hi = some (inR n lo hi) := by
  unfold p_impl_within inR
  split
  · rename_i h; simp [h]
  · rename_i h; simp [h]


structure Sl00Src where
  Code : List Int
  At : Int
  Seed : Int
def rSl00Src (x : Sl00Src) : List D := [.arr (x.Code.map rU), dI x.At, .lit (.int .u64 x.Seed)]

noncomputable def p_spec_l00From (a_0 : List Int) : Option Sl00Src :=
  some (⟨a_0, 0, 0⟩ : Sl00Src)

theorem L_spec_l00From (a_0 : List Int) {r : Sl00Src} (h : p_spec_l00From a_0 = some r) : callL E 103 [.d (.arr (a_0.map rU))] ([] : Fo) = some (.bp 0 0, ([some (.box [.d (.arr (r.Code.map rU)), IN r.At, .d (.lit (.int .u64 r.Seed))])] : Fo)) := by
  unfold p_spec_l00From at h
  refine callW (fu := Try.f103) rfl rfl rfl NN ?_
  intro lp cl hlp hcl
  conv => lhs; whnf
  obtain rfl := Option.some.inj h
  show _ = _
  kernel_rfl

noncomputable def p_spec_l00Src_next (a_0 : Sl00Src) : Option (Int × Sl00Src) :=
  if a_0.At < (a_0.Code.length : Int) then
    getK a_0.Code a_0.At fun x1 =>
    if (IntKind.i64.wrap (a_0.At + 1)) ≤ (a_0.Code.length : Int) then
      some ((IntKind.i64.wrap x1), (⟨a_0.Code, (IntKind.i64.wrap (a_0.At + 1)), (IntKind.u64.wrap ((IntKind.u64.wrap ((IntKind.u64.wrap (a_0.Seed * 6364136223846793005)) + (IntKind.u64.wrap (IntKind.i64.wrap x1)))) + 1442695040888963407))⟩ : Sl00Src))
    else
      some ((IntKind.i64.wrap (andK .u64 (Int.fdiv (IntKind.u64.wrap ((IntKind.u64.wrap ((IntKind.u64.wrap (a_0.Seed * 6364136223846793005)) + (IntKind.u64.wrap (IntKind.i64.wrap x1)))) + 1442695040888963407)) (2 ^ (min (Int.toNat 40) IntKind.u64.bits))) 255)), (⟨a_0.Code, (IntKind.i64.wrap (a_0.At + 1)), (IntKind.u64.wrap ((IntKind.u64.wrap ((IntKind.u64.wrap (a_0.Seed * 6364136223846793005)) + (IntKind.u64.wrap (IntKind.i64.wrap x1)))) + 1442695040888963407))⟩ : Sl00Src))
  else
    if (IntKind.i64.wrap (a_0.At + 1)) ≤ (a_0.Code.length : Int) then
      some (0, (⟨a_0.Code, (IntKind.i64.wrap (a_0.At + 1)), (IntKind.u64.wrap ((IntKind.u64.wrap ((IntKind.u64.wrap (a_0.Seed * 6364136223846793005)) + (IntKind.u64.wrap 0))) + 1442695040888963407))⟩ : Sl00Src))
    else
      some ((IntKind.i64.wrap (andK .u64 (Int.fdiv (IntKind.u64.wrap ((IntKind.u64.wrap ((IntKind.u64.wrap (a_0.Seed * 6364136223846793005)) + (IntKind.u64.wrap 0))) + 1442695040888963407)) (2 ^ (min (Int.toNat 40) IntKind.u64.bits))) 255)), (⟨a_0.Code, (IntKind.i64.wrap (a_0.At + 1)), (IntKind.u64.wrap ((IntKind.u64.wrap ((IntKind.u64.wrap (a_0.Seed * 6364136223846793005)) + (IntKind.u64.wrap 0))) + 1442695040888963407))⟩ : Sl00Src))

theorem L_spec_l00Src_next (a_0 : Sl00Src) {r : (Int × Sl00Src)} (h : p_spec_l00Src_next a_0 = some r) : callL E 217 [.bp 0 0] ([some (.box [.d (.arr (a_0.Code.map rU)), IN a_0.At, .d (.lit (.int .u64 a_0.Seed))])] : Fo) = some (IN r.1, ([some (.box [.d (.arr (r.2.Code.map rU)), IN r.2.At, .d (.lit (.int .u64 r.2.Seed))])] : Fo)) := by
  unfold p_spec_l00Src_next at h
  refine callW (fu := Try.f217) rfl rfl rfl NN ?_
  intro lp cl hlp hcl
  conv => lhs; whnf
  try rw [len_of (l := a_0.Code) (r := rU)]
  cases hb2 : (decide (a_0.At < (a_0.Code.length : Int)))
  · replace h := ifF h (decF hb2)
    conv => lhs; whnf
    try rw [len_of (l := a_0.Code) (r := rU)]
    cases hb3 : (decide ((IntKind.i64.wrap (a_0.At + 1)) ≤ (a_0.Code.length : Int)))
    · replace h := ifF h (decF hb3)
      conv => lhs; whnf
      obtain rfl := Option.some.inj h
      show _ = _
      kernel_rfl
    · replace h := ifT h (decT hb3)
      conv => lhs; whnf
      obtain rfl := Option.some.inj h
      show _ = _
      kernel_rfl
  · replace h := ifT h (decT hb2)
    conv => lhs; whnf
    obtain ⟨x1, hq_x1, hx_x1', h⟩ := getK_inv h
    have hx_x1 := get_of (r := rU) hx_x1'
    try (rw [decide_eq_true hq_x1]; conv => lhs; whnf)
    rw [hx_x1]
    conv => lhs; whnf
    rw [hx_x1]
    conv => lhs; whnf
    try rw [len_of (l := a_0.Code) (r := rU)]
    cases hb4 : (decide ((IntKind.i64.wrap (a_0.At + 1)) ≤ (a_0.Code.length : Int)))
    · replace h := ifF h (decF hb4)
      conv => lhs; whnf
      obtain rfl := Option.some.inj h
      show _ = _
      kernel_rfl
    · replace h := ifT h (decT hb4)
      conv => lhs; whnf
      obtain rfl := Option.some.inj h
      show _ = _
      kernel_rfl

noncomputable def p_spec_l00Src_pick (a_0 : Int) (a_1 : Sl00Src) : Option (Int × Sl00Src) :=
  if a_0 ≤ 1 then
    some (0, a_1)
  else
    callK (p_spec_l00Src_next a_1) fun y1 =>
    if a_0 > 200 then
      callK (p_spec_l00Src_next y1.2) fun y2 =>
      grd (a_0 ≠ 0) <|
      some ((Int.tmod (IntKind.i64.wrap ((IntKind.i64.wrap (y1.1 * 256)) + y2.1)) a_0), y2.2)
    else
      grd (a_0 ≠ 0) <|
      some ((Int.tmod y1.1 a_0), y1.2)

theorem L_spec_l00Src_pick (a_0 : Int) (a_1 : Sl00Src) {r : (Int × Sl00Src)} (h : p_spec_l00Src_pick a_0 a_1 = some r) : callL E 122 [.bp 0 0, IN a_0] ([some (.box [.d (.arr (a_1.Code.map rU)), IN a_1.At, .d (.lit (.int .u64 a_1.Seed))])] : Fo) = some (IN r.1, ([some (.box [.d (.arr (r.2.Code.map rU)), IN r.2.At, .d (.lit (.int .u64 r.2.Seed))])] : Fo)) := by
  unfold p_spec_l00Src_pick at h
  refine callW (fu := Try.f122) rfl rfl rfl NN ?_
  intro lp cl hlp hcl
  conv => lhs; whnf
  cases hb3 : (decide (a_0 ≤ 1))
  · replace h := ifF h (decF hb3)
    conv => lhs; whnf
    obtain ⟨y1, h_y1, h⟩ := callK_inv h
    rw [cl_eq hcl (L_spec_l00Src_next a_1 h_y1)]
    rotate_left
    · show _ = _
      kernel_rfl
    · show _ = _
      kernel_rfl
    conv => lhs; whnf
    cases hb4 : (decide (a_0 > 200))
    · replace h := ifF h (decF hb4)
      conv => lhs; whnf
      obtain ⟨hg5, h⟩ := grd_inv h
      rw [rem_run _ _ _ _ hg5]
      conv => lhs; whnf
      obtain rfl := Option.some.inj h
      show _ = _
      kernel_rfl
    · replace h := ifT h (decT hb4)
      conv => lhs; whnf
      obtain ⟨y2, h_y2, h⟩ := callK_inv h
      rw [cl_eq hcl (L_spec_l00Src_next y1.2 h_y2)]
      rotate_left
      · show _ = _
        kernel_rfl
      · show _ = _
        kernel_rfl
      conv => lhs; whnf
      obtain ⟨hg6, h⟩ := grd_inv h
      rw [rem_run _ _ _ _ hg6]
      conv => lhs; whnf
      obtain rfl := Option.some.inj h
      show _ = _
      kernel_rfl
  · replace h := ifT h (decT hb3)
    conv => lhs; whnf
    obtain rfl := Option.some.inj h
    show _ = _
    kernel_rfl
/-- A source of choices from which as many may still be drawn. -/
structure SrcOk (b : Int) (s : Sl00Src) : Prop where
  code : ∀ x ∈ s.Code, 0 ≤ x ∧ x ≤ 255
  len : s.Code.length ≤ 1048576
  lo : 0 ≤ s.At
  hi : s.At + b ≤ 4611686018427387904
theorem SrcOk.le {b c : Int} {s : Sl00Src} (h : SrcOk b s) (hc : c ≤ b) : SrcOk c s := ⟨h.1, h.2, h.3, by have := h.4; omega⟩
theorem nxV_in (sd : Int) : 0 ≤ IntKind.i64.wrap (andK .u64 sd 255) ∧ IntKind.i64.wrap (andK .u64 sd 255) ≤ 255 := by
  unfold andK
  generalize BitVec.ofInt IntKind.u64.bits sd = a
  have h1 : (a &&& BitVec.ofInt IntKind.u64.bits 255).toNat ≤ 255 := by
    rw [BitVec.toNat_and]
    exact Nat.le_trans Nat.and_le_right (by decide)
  generalize (a &&& BitVec.ofInt IntKind.u64.bits 255).toNat = m at h1
  have e1 : IntKind.u64.wrap (m : Int) = m := by unfold IntKind.wrap; simp [IntKind.signed, IntKind.bits]; omega
  rw [e1, wrap_sm _ (by omega) (by omega)]
  omega
theorem next_ok {b : Int} {s : Sl00Src} (hb : 0 ≤ b) (h : SrcOk (b + 1) s) : ∃ v s', p_spec_l00Src_next s = some (v, s') ∧ (0 ≤ v ∧ v ≤ 255) ∧ SrcOk b s' := by
  obtain ⟨h1, h2, h3, h4⟩ := h
  have hw : IntKind.i64.wrap (s.At + 1) = s.At + 1 := wrap_sm _ (by omega) (by omega)
  unfold p_spec_l00Src_next
  rw [hw]
  split
  · rename_i hlt
    rw [getK_in h3 hlt]
    have hb := h1 _ (List.getElem_mem (show s.At.toNat < s.Code.length by omega))
    rw [if_pos (by omega)]
    exact ⟨_, _, rfl, by rw [wrap_sm _ (by omega) (by omega)]; exact hb, h1, h2, by show 0 ≤ s.At + 1; omega, by show s.At + 1 + b ≤ _; omega⟩
  · rename_i hlt
    rw [if_neg (by omega)]
    exact ⟨_, _, rfl, nxV_in _, h1, h2, by show 0 ≤ s.At + 1; omega, by show s.At + 1 + b ≤ _; omega⟩
theorem pick_ok {b : Int} {s : Sl00Src} (m : Int) (hb : 0 ≤ b) (h : SrcOk (b + 2) s) : ∃ r s', p_spec_l00Src_pick m s = some (r, s') ∧ (0 ≤ r ∧ (1 < m → r < m) ∧ (m ≤ 1 → r = 0)) ∧ SrcOk b s' := by
  unfold p_spec_l00Src_pick
  split
  · rename_i hm
    exact ⟨0, s, rfl, ⟨by omega, fun h => by omega, fun _ => rfl⟩, h.le (by omega)⟩
  · rename_i hm
    obtain ⟨v1, s1, e1, b1, o1⟩ := next_ok (b := b + 1) (by omega) (h.le (by omega))
    rw [e1, callK_some]
    split
    · obtain ⟨v2, s2, e2, b2, o2⟩ := next_ok hb o1
      rw [e2, callK_some, grd_pos (by omega)]
      have w1 : IntKind.i64.wrap (v1 * 256) = v1 * 256 := wrap_sm _ (by omega) (by omega)
      have w2 : IntKind.i64.wrap (v1 * 256 + v2) = v1 * 256 + v2 := wrap_sm _ (by omega) (by omega)
      refine ⟨_, _, rfl, ?_, o2⟩
      show 0 ≤ Int.tmod (IntKind.i64.wrap (IntKind.i64.wrap (v1 * 256) + v2)) m ∧ _
      rw [w1, w2]
      exact ⟨Int.tmod_nonneg _ (by omega), fun _ => Int.tmod_lt_of_pos _ (by omega), fun h3 => by omega⟩
    · rw [grd_pos (by omega)]
      exact ⟨_, _, rfl, ⟨Int.tmod_nonneg _ b1.1, fun _ => Int.tmod_lt_of_pos _ (by omega), fun h3 => by omega⟩, o1.le (by omega)⟩
theorem from_ok {code : List Int} (h : ∀ x ∈ code, 0 ≤ x ∧ x ≤ 255) (hl : code.length ≤ 1048576) : ∃ s, p_spec_l00From code = some s ∧ SrcOk 1099511627776 s :=
  ⟨_, rfl, h, hl, by show (0 : Int) ≤ 0; omega, by show (0 : Int) + 1099511627776 ≤ _; omega⟩

noncomputable def p_spec_l00Src_among (a_0 : List Int) (a_1 : Sl00Src) : Option (Int × Sl00Src) :=
  callK (p_spec_l00Src_pick (a_0.length : Int) a_1) fun y1 =>
  getK a_0 y1.1 fun x2 =>
  some (x2, y1.2)

theorem L_spec_l00Src_among (a_0 : List Int) (a_1 : Sl00Src) {r : (Int × Sl00Src)} (h : p_spec_l00Src_among a_0 a_1 = some r) : callL E 105 [.bp 0 0, .d (.arr (a_0.map rI))] ([some (.box [.d (.arr (a_1.Code.map rU)), IN a_1.At, .d (.lit (.int .u64 a_1.Seed))])] : Fo) = some (IN r.1, ([some (.box [.d (.arr (r.2.Code.map rU)), IN r.2.At, .d (.lit (.int .u64 r.2.Seed))])] : Fo)) := by
  unfold p_spec_l00Src_among at h
  refine callW (fu := Try.f105) rfl rfl rfl NN ?_
  intro lp cl hlp hcl
  conv => lhs; whnf
  try rw [len_of (l := a_0) (r := rI)]
  obtain ⟨y1, h_y1, h⟩ := callK_inv h
  rw [cl_eq hcl (L_spec_l00Src_pick (a_0.length : Int) a_1 h_y1)]
  rotate_left
  · show _ = _
    kernel_rfl
  · show _ = _
    kernel_rfl
  conv => lhs; whnf
  obtain ⟨x2, hq_x2, hx_x2', h⟩ := getK_inv h
  have hx_x2 := get_of (r := rI) hx_x2'
  try (rw [decide_eq_true hq_x2]; conv => lhs; whnf)
  rw [hx_x2]
  conv => lhs; whnf
  rw [hx_x2]
  conv => lhs; whnf
  obtain rfl := Option.some.inj h
  show _ = _
  kernel_rfl
theorem among_ok {b : Int} {s : Sl00Src} (l : List Int) (hl : 0 < l.length) (hb : 0 ≤ b) (h : SrcOk (b + 2) s) : ∃ r s', p_spec_l00Src_among l s = some (r, s') ∧ r ∈ l ∧ SrcOk b s' := by
  obtain ⟨r, s1, e1, ⟨b1, b2, b3⟩, o1⟩ := pick_ok (l.length : Int) hb h
  unfold p_spec_l00Src_among
  have hr : r < (l.length : Int) := by
    rcases Nat.lt_or_ge 1 l.length with h | h
    · exact b2 (by omega)
    · have := b3 (by omega); omega
  rw [e1, callK_some, getK_in b1 hr]
  exact ⟨_, _, rfl, List.getElem_mem _, o1⟩

noncomputable def p_spec_l00Src_one (a_0 : Int) (a_1 : Sl00Src) : Option (Bool × Sl00Src) :=
  callK (p_spec_l00Src_pick a_0 a_1) fun y1 =>
  some ((y1.1 == 0), y1.2)

theorem L_spec_l00Src_one (a_0 : Int) (a_1 : Sl00Src) {r : (Bool × Sl00Src)} (h : p_spec_l00Src_one a_0 a_1 = some r) : callL E 130 [.bp 0 0, IN a_0] ([some (.box [.d (.arr (a_1.Code.map rU)), IN a_1.At, .d (.lit (.int .u64 a_1.Seed))])] : Fo) = some (BO r.1, ([some (.box [.d (.arr (r.2.Code.map rU)), IN r.2.At, .d (.lit (.int .u64 r.2.Seed))])] : Fo)) := by
  unfold p_spec_l00Src_one at h
  refine callW (fu := Try.f130) rfl rfl rfl NN ?_
  intro lp cl hlp hcl
  conv => lhs; whnf
  obtain ⟨y1, h_y1, h⟩ := callK_inv h
  rw [cl_eq hcl (L_spec_l00Src_pick a_0 a_1 h_y1)]
  rotate_left
  · show _ = _
    kernel_rfl
  · show _ = _
    kernel_rfl
  conv => lhs; whnf
  obtain rfl := Option.some.inj h
  show _ = _
  kernel_rfl
theorem one_ok {b : Int} {s : Sl00Src} (m : Int) (hb : 0 ≤ b) (h : SrcOk (b + 2) s) : ∃ r s', p_spec_l00Src_one m s = some (r, s') ∧ SrcOk b s' := by
  obtain ⟨r, s1, e1, _, o1⟩ := pick_ok m hb h
  unfold p_spec_l00Src_one
  rw [e1, callK_some]
  exact ⟨_, _, rfl, o1⟩

noncomputable def p_spec_l00Src_among' (a_0 : Sl00Src) (a_1 : List Int) : Option (Int × Sl00Src) :=
  callK (p_spec_l00Src_pick (a_1.length : Int) a_0) fun y1 =>
  getK a_1 y1.1 fun x2 =>
  some (x2, y1.2)

theorem L_spec_l00Src_among' (a_0 : Sl00Src) (a_1 : List Int) {r : (Int × Sl00Src)} (h : p_spec_l00Src_among' a_0 a_1 = some r) : callL E 105 [.bp 0 0, .sl 1] ([some (.box [.d (.arr (a_0.Code.map rU)), IN a_0.At, .d (.lit (.int .u64 a_0.Seed))]), some (.arr 2 1 (a_1.map rI))] : Fo) = some (IN r.1, ([some (.box [.d (.arr (r.2.Code.map rU)), IN r.2.At, .d (.lit (.int .u64 r.2.Seed))]), some (.arr 2 1 (a_1.map rI))] : Fo)) := by
  unfold p_spec_l00Src_among' at h
  refine callW (fu := Try.f105) rfl rfl rfl NN ?_
  intro lp cl hlp hcl
  conv => lhs; whnf
  try rw [len_of (l := a_1) (r := rI)]
  obtain ⟨y1, h_y1, h⟩ := callK_inv h
  rw [cl_eq hcl (L_spec_l00Src_pick (a_1.length : Int) a_0 h_y1)]
  rotate_left
  · show _ = _
    kernel_rfl
  · show _ = _
    kernel_rfl
  conv => lhs; whnf
  obtain ⟨x2, hq_x2, hx_x2', h⟩ := getK_inv h
  have hx_x2 := get_of (r := rI) hx_x2'
  try (rw [decide_eq_true hq_x2]; conv => lhs; whnf)
  rw [hx_x2]
  conv => lhs; whnf
  rw [hx_x2]
  conv => lhs; whnf
  obtain rfl := Option.some.inj h
  show _ = _
  kernel_rfl

noncomputable def p_spec_l15Cells (a_0 : Sl00Src) : Option (Cells × Sl00Src) :=
  callK (p_spec_l00Src_one 4 a_0) fun y1 =>
  callK (p_spec_l00Src_pick 10 y1.2) fun y2 =>
  iterK (fun ((v3, v4, v5, v6) : (Bool × Int × Sl00Src × (List Int))) (nx7 : (Bool × Int × Sl00Src × (List Int)) → Option _) =>
    if v4 > 0 then
      callK (p_spec_l00Src_pick 256 v5) fun y8 =>
      callK (p_spec_l00Src_among' y8.2 ([0, 255, 127, 128, 63, y8.1] : List Int)) fun y9 =>
      if v3 = true then
        grd (appOk (v6.length + 1) 8 = true) <|
        nx7 (true, (IntKind.i64.wrap (v4 - 1)), y9.2, (v6 ++ ([63] : List Int)))
      else
        grd (appOk (v6.length + 1) 8 = true) <|
        nx7 (false, (IntKind.i64.wrap (v4 - 1)), y9.2, (v6 ++ ([y9.1] : List Int)))
    else
      callK (p_spec_l00Src_one 12 v5) fun y10 =>
      if y10.1 = true then
        callK (p_spec_l00Src_among' y10.2 ([(-1), 256, 1099511627776] : List Int)) fun y11 =>
        grd (appOk (v6.length + 1) 8 = true) <|
        callK (p_spec_l00Src_one 30 y11.2) fun y12 =>
        if y12.1 = true then
          callK (p_spec_l00Src_pick 2 y12.2) fun y13 =>
          grd (mkOk (IntKind.i64.wrap (64 + y13.1)) (IntKind.i64.wrap (64 + y13.1)) 8 1 = true) <|
          some ((⟨(List.replicate (Int.toNat (IntKind.i64.wrap (64 + y13.1))) 0)⟩ : Cells), y13.2)
        else
          some ((⟨(v6 ++ ([y11.1] : List Int))⟩ : Cells), y12.2)
      else
        callK (p_spec_l00Src_one 30 y10.2) fun y14 =>
        if y14.1 = true then
          callK (p_spec_l00Src_pick 2 y14.2) fun y15 =>
          grd (mkOk (IntKind.i64.wrap (64 + y15.1)) (IntKind.i64.wrap (64 + y15.1)) 8 1 = true) <|
          some ((⟨(List.replicate (Int.toNat (IntKind.i64.wrap (64 + y15.1))) 0)⟩ : Cells), y15.2)
        else
          some ((⟨v6⟩ : Cells), y14.2)) NN (y1.1, y2.1, y2.2, ([] : List Int))

theorem L_spec_l15Cells (a_0 : Sl00Src) {r : (Cells × Sl00Src)} (h : p_spec_l15Cells a_0 = some r) : callL E 104 [.bp 0 0] ([some (.box [.d (.arr (a_0.Code.map rU)), IN a_0.At, .d (.lit (.int .u64 a_0.Seed))])] : Fo) = some (.agg [.d (.arr (r.1.Charge.map rI))], ([some (.box [.d (.arr (r.2.Code.map rU)), IN r.2.At, .d (.lit (.int .u64 r.2.Seed))])] : Fo)) := by
  unfold p_spec_l15Cells at h
  refine callW (fu := Try.f104) rfl rfl rfl NN ?_
  intro lp cl hlp hcl
  conv => lhs; whnf
  obtain ⟨y1, h_y1, h⟩ := callK_inv h
  rw [cl_eq hcl (L_spec_l00Src_one 4 a_0 h_y1)]
  rotate_left
  · show _ = _
    kernel_rfl
  · show _ = _
    kernel_rfl
  conv => lhs; whnf
  obtain ⟨y2, h_y2, h⟩ := callK_inv h
  rw [cl_eq hcl (L_spec_l00Src_pick 10 y1.2 h_y2)]
  rotate_left
  · show _ = _
    kernel_rfl
  · show _ = _
    kernel_rfl
  conv => lhs; whnf
  refine loop_iter hlp (fun ((v3, v4, v5, v6) : (Bool × Int × Sl00Src × (List Int))) => ([.bp 0 0, .dead, .bp 1 0, .bp 2 0, BO v3, IN v4] ++ List.replicate 40 .dead : List V)) (fun ((v3, v4, v5, v6) : (Bool × Int × Sl00Src × (List Int))) => ([some (.box [.d (.arr (v5.Code.map rU)), IN v5.At, .d (.lit (.int .u64 v5.Seed))]), some (.box [.d (.arr (([] : List Int).map rI))]), some (.box [.sl 3]), some (.arr 2 1 (v6.map rI))] : Fo)) (fun (r : (Cells × Sl00Src)) => ((.agg [.d (.arr (r.1.Charge.map rI))] : V), ([some (.box [.d (.arr (r.2.Code.map rU)), IN r.2.At, .d (.lit (.int .u64 r.2.Seed))])] : Fo))) ?_ (y1.1, y2.1, y2.2, ([] : List Int)) _ (fun kk => by kernel_rfl) h
  clear h
  rintro next_nx7 nx7 hnx7 ⟨v3, v4, v5, v6⟩ r h
  try dsimp only at h
  conv => lhs; whnf
  cases hb16 : (decide (v4 > 0))
  · replace h := ifF h (decF hb16)
    conv => lhs; whnf
    obtain ⟨y10, h_y10, h⟩ := callK_inv h
    rw [cl_eq hcl (L_spec_l00Src_one 12 v5 h_y10)]
    rotate_left
    · show _ = _
      kernel_rfl
    · show _ = _
      kernel_rfl
    conv => lhs; whnf
    cases hb17 : y10.1
    · replace h := ifF h (booF hb17)
      conv => lhs; whnf
      obtain ⟨y14, h_y14, h⟩ := callK_inv h
      rw [cl_eq hcl (L_spec_l00Src_one 30 y10.2 h_y14)]
      rotate_left
      · show _ = _
        kernel_rfl
      · show _ = _
        kernel_rfl
      conv => lhs; whnf
      cases hb18 : y14.1
      · replace h := ifF h (booF hb18)
        conv => lhs; whnf
        obtain rfl := Option.some.inj h
        show _ = _
        kernel_rfl
      · replace h := ifT h hb18
        conv => lhs; whnf
        obtain ⟨y15, h_y15, h⟩ := callK_inv h
        rw [cl_eq hcl (L_spec_l00Src_pick 2 y14.2 h_y15)]
        rotate_left
        · show _ = _
          kernel_rfl
        · show _ = _
          kernel_rfl
        conv => lhs; whnf
        obtain ⟨hg19, h⟩ := grd_inv h
        rw [mk_eq hg19 ?h1 ?h2 ?h3 ?h4]
        case h1 => exact rfl
        case h2 => exact rfl
        case h3 => exact rfl
        case h4 => exact rfl
        conv => lhs; whnf
        first | (rw [rep_of (r := rI) (x := 0) ?hh]; case hh => exact rfl) | skip
        obtain rfl := Option.some.inj h
        show _ = _
        kernel_rfl
    · replace h := ifT h hb17
      conv => lhs; whnf
      obtain ⟨y11, h_y11, h⟩ := callK_inv h
      rw [cl_eq hcl (L_spec_l00Src_among' y10.2 ([(-1), 256, 1099511627776] : List Int) h_y11)]
      rotate_left
      · show _ = _
        kernel_rfl
      · show _ = _
        kernel_rfl
      conv => lhs; whnf
      obtain ⟨hg20, h⟩ := grd_inv h
      rw [app_eq hg20 ?h1 ?h2]
      case h1 => first | exact rfl | (simp only [List.length_map, List.length_cons, List.length_nil]; done) | (rw [List.length_map]; rfl)
      case h2 => exact rfl
      conv => lhs; whnf
      first | (rw [map_app_of (r := rI) (l := v6) (m := ([y11.1] : List Int)) ?hh]; case hh => exact rfl) | skip
      obtain ⟨y12, h_y12, h⟩ := callK_inv h
      rw [cl_eq hcl (L_spec_l00Src_one 30 y11.2 h_y12)]
      rotate_left
      · show _ = _
        kernel_rfl
      · show _ = _
        kernel_rfl
      conv => lhs; whnf
      cases hb21 : y12.1
      · replace h := ifF h (booF hb21)
        conv => lhs; whnf
        obtain rfl := Option.some.inj h
        show _ = _
        kernel_rfl
      · replace h := ifT h hb21
        conv => lhs; whnf
        obtain ⟨y13, h_y13, h⟩ := callK_inv h
        rw [cl_eq hcl (L_spec_l00Src_pick 2 y12.2 h_y13)]
        rotate_left
        · show _ = _
          kernel_rfl
        · show _ = _
          kernel_rfl
        conv => lhs; whnf
        obtain ⟨hg22, h⟩ := grd_inv h
        rw [mk_eq hg22 ?h1 ?h2 ?h3 ?h4]
        case h1 => exact rfl
        case h2 => exact rfl
        case h3 => exact rfl
        case h4 => exact rfl
        conv => lhs; whnf
        first | (rw [rep_of (r := rI) (x := 0) ?hh]; case hh => exact rfl) | skip
        obtain rfl := Option.some.inj h
        show _ = _
        kernel_rfl
  · replace h := ifT h (decT hb16)
    conv => lhs; whnf
    obtain ⟨y8, h_y8, h⟩ := callK_inv h
    rw [cl_eq hcl (L_spec_l00Src_pick 256 v5 h_y8)]
    rotate_left
    · show _ = _
      kernel_rfl
    · show _ = _
      kernel_rfl
    conv => lhs; whnf
    obtain ⟨y9, h_y9, h⟩ := callK_inv h
    rw [cl_eq hcl (L_spec_l00Src_among' y8.2 ([0, 255, 127, 128, 63, y8.1] : List Int) h_y9)]
    rotate_left
    · show _ = _
      kernel_rfl
    · show _ = _
      kernel_rfl
    conv => lhs; whnf
    cases hb23 : v3
    · replace h := ifF h (booF hb23)
      conv => lhs; whnf
      obtain ⟨hg24, h⟩ := grd_inv h
      rw [app_eq hg24 ?h1 ?h2]
      case h1 => first | exact rfl | (simp only [List.length_map, List.length_cons, List.length_nil]; done) | (rw [List.length_map]; rfl)
      case h2 => exact rfl
      conv => lhs; whnf
      first | (rw [map_app_of (r := rI) (l := v6) (m := ([y9.1] : List Int)) ?hh]; case hh => exact rfl) | skip
      exact hnx7 _ _ _ _ (fun kk => by kernel_rfl) h
    · replace h := ifT h hb23
      conv => lhs; whnf
      obtain ⟨hg25, h⟩ := grd_inv h
      rw [app_eq hg25 ?h1 ?h2]
      case h1 => first | exact rfl | (simp only [List.length_map, List.length_cons, List.length_nil]; done) | (rw [List.length_map]; rfl)
      case h2 => exact rfl
      conv => lhs; whnf
      first | (rw [map_app_of (r := rI) (l := v6) (m := ([63] : List Int)) ?hh]; case hh => exact rfl) | skip
      exact hnx7 _ _ _ _ (fun kk => by kernel_rfl) h

noncomputable def p_spec_DrawErasePasses (a_0 : List Int) : Option (Cells × Int) :=
  callK (p_spec_l00From a_0) fun y1 =>
  callK (p_spec_l15Cells y1) fun y2 =>
  callK (p_spec_l00Src_among' y2.2 ([0, 1, 2, 16, 63, 64, 128, 255, 256] : List Int)) fun y3 =>
  some (y2.1, y3.1)

theorem L_spec_DrawErasePasses (a_0 : List Int) {r : (Cells × Int)} (h : p_spec_DrawErasePasses a_0 = some r) : callL E 15 [.d (.arr (a_0.map rU))] ([] : Fo) = some (.tup [.agg [.d (.arr (r.1.Charge.map rI))], IN r.2], ([] : Fo)) := by
  unfold p_spec_DrawErasePasses at h
  refine callW (fu := Try.f15) rfl rfl rfl NN ?_
  intro lp cl hlp hcl
  conv => lhs; whnf
  obtain ⟨y1, h_y1, h⟩ := callK_inv h
  rw [cl_eq hcl (L_spec_l00From a_0 h_y1)]
  rotate_left
  · show _ = _
    kernel_rfl
  · show _ = _
    kernel_rfl
  conv => lhs; whnf
  obtain ⟨y2, h_y2, h⟩ := callK_inv h
  rw [cl_eq hcl (L_spec_l15Cells y1 h_y2)]
  rotate_left
  · show _ = _
    kernel_rfl
  · show _ = _
    kernel_rfl
  conv => lhs; whnf
  obtain ⟨y3, h_y3, h⟩ := callK_inv h
  rw [cl_eq hcl (L_spec_l00Src_among' y2.2 ([0, 1, 2, 16, 63, 64, 128, 255, 256] : List Int) h_y3)]
  rotate_left
  · show _ = _
    kernel_rfl
  · show _ = _
    kernel_rfl
  conv => lhs; whnf
  obtain rfl := Option.some.inj h
  show _ = _
  kernel_rfl

noncomputable def p_impl_allWithin_c1 (a_0 : Int) (a_1 : Int) (a_2 : Int) : Option Bool :=
  some (!(inR a_0 a_1 a_2))

theorem L_impl_allWithin_c1 (a_0 : Int) (a_1 : Int) (a_2 : Int) {r : Bool} (h : p_impl_allWithin_c1 a_0 a_1 a_2 = some r) : callL E 227 [IN a_0, .bp 0 0, .bp 1 0] ([some (.box [IN a_1]), some (.box [IN a_2])] : Fo) = some (BO r, ([some (.box [IN a_1]), some (.box [IN a_2])] : Fo)) := by
  unfold p_impl_allWithin_c1 at h
  refine callW (fu := Try.f227) rfl rfl rfl NN ?_
  intro lp cl hlp hcl
  conv => lhs; whnf
  rw [cl_eq hcl (L_impl_within a_0 a_1 a_2 (pl_within a_0 a_1 a_2))]
  rotate_left
  · show _ = _
    kernel_rfl
  · show _ = _
    kernel_rfl
  conv => lhs; whnf
  obtain rfl := Option.some.inj h
  show _ = _
  kernel_rfl

noncomputable def p_slices_IndexFunc_impl_allWithin_c1 (a_0 : List Int) (a_1 : Int) (a_2 : Int) : Option Int :=
  grd (a_0.length < 4611686018427387904) <|
  forK a_0 (fun (i4 : Nat) x6 (_ : Unit) (nx5 : Unit → Option _) =>
    callK (p_impl_allWithin_c1 x6 a_1 a_2) fun y7 =>
    if y7 = true then
      some (i4 : Int)
    else
      nx5 ()) () (fun (_ : Unit) =>
    some (-1))

theorem L_slices_IndexFunc_impl_allWithin_c1 (a_0 : List Int) (a_1 : Int) (a_2 : Int) {r : Int} (h : p_slices_IndexFunc_impl_allWithin_c1 a_0 a_1 a_2 = some r) : callL E 210 [.d (.arr (a_0.map rI)), .clo 227 [.bp 0 0, .bp 1 0]] ([some (.box [IN a_1]), some (.box [IN a_2])] : Fo) = some (IN r, ([some (.box [IN a_1]), some (.box [IN a_2])] : Fo)) := by
  unfold p_slices_IndexFunc_impl_allWithin_c1 at h
  refine callW (fu := Try.f210) rfl rfl rfl NN ?_
  intro lp cl hlp hcl
  conv => lhs; whnf
  try rw [len_of (l := a_0) (r := rI)]
  obtain ⟨hl_i4, h⟩ := grd_inv h
  refine loop_for hlp (l := a_0) hl_i4 (fun (i4 : Nat) (_ : Unit) => ([.d (.arr (a_0.map rI)), .clo 227 [.bp 0 0, .bp 1 0], .dead, .dead, .dead, .dead, .dead, IN (a_0.length : Int), IN (i4 : Int)] ++ List.replicate 10 .dead : List V)) (fun (i4 : Nat) (_ : Unit) => ([some (.box [IN a_1]), some (.box [IN a_2])] : Fo)) (fun (r : Int) => ((IN r : V), ([some (.box [IN a_1]), some (.box [IN a_2])] : Fo))) ?_ ?_ () _ (fun kk => by kernel_rfl) h
  · clear h
    rintro next_nx5 nx5 i4 hi_i4 hnx5 ⟨⟩ r h
    try dsimp only at h
    have hn_i4 : i4 < 4611686018427387904 := by omega
    have hx_x6 := get_map rI a_0 i4 hi_i4
    generalize a_0[i4] = x6 at h hx_x6
    have hd_i4 : (decide ((i4 : Int) < (a_0.length : Int))) = true := decide_eq_true (by omega)
    conv => lhs; whnf
    rw [hd_i4]
    conv => lhs; whnf
    try (rw [decide_eq_true hq_x6]; conv => lhs; whnf)
    rw [hx_x6]
    conv => lhs; whnf
    rw [hx_x6]
    conv => lhs; whnf
    obtain ⟨y7, h_y7, h⟩ := callK_inv h
    rw [cl_eq hcl (L_impl_allWithin_c1 x6 a_1 a_2 h_y7)]
    rotate_left
    · show _ = _
      kernel_rfl
    · show _ = _
      kernel_rfl
    conv => lhs; whnf
    cases hb8 : y7
    · replace h := ifF h (booF hb8)
      conv => lhs; whnf
      rw [wrap_nat i4 (by have := hn_i4; omega)]
      exact hnx5 _ _ _ _ (fun kk => by kernel_rfl) h
    · replace h := ifT h hb8
      conv => lhs; whnf
      obtain rfl := Option.some.inj h
      show _ = _
      kernel_rfl
  · clear h
    rintro next_nx5 ⟨⟩ r h
    try dsimp only at h
    have hd_i4 : (decide ((a_0.length : Int) < (a_0.length : Int))) = false := decide_eq_false (by omega)
    conv => lhs; whnf
    rw [hd_i4]
    conv => lhs; whnf
    obtain rfl := Option.some.inj h
    show _ = _
    kernel_rfl

noncomputable def p_slices_ContainsFunc_impl_allWithin_c1 (a_0 : List Int) (a_1 : Int) (a_2 : Int) : Option Bool :=
  callK (p_slices_IndexFunc_impl_allWithin_c1 a_0 a_1 a_2) fun y1 =>
  some (decide (y1 ≥ 0))

theorem L_slices_ContainsFunc_impl_allWithin_c1 (a_0 : List Int) (a_1 : Int) (a_2 : Int) {r : Bool} (h : p_slices_ContainsFunc_impl_allWithin_c1 a_0 a_1 a_2 = some r) : callL E 108 [.d (.arr (a_0.map rI)), .clo 227 [.bp 0 0, .bp 1 0]] ([some (.box [IN a_1]), some (.box [IN a_2])] : Fo) = some (BO r, ([some (.box [IN a_1]), some (.box [IN a_2])] : Fo)) := by
  unfold p_slices_ContainsFunc_impl_allWithin_c1 at h
  refine callW (fu := Try.f108) rfl rfl rfl NN ?_
  intro lp cl hlp hcl
  conv => lhs; whnf
  obtain ⟨y1, h_y1, h⟩ := callK_inv h
  rw [cl_eq hcl (L_slices_IndexFunc_impl_allWithin_c1 a_0 a_1 a_2 h_y1)]
  rotate_left
  · show _ = _
    kernel_rfl
  · show _ = _
    kernel_rfl
  conv => lhs; whnf
  obtain rfl := Option.some.inj h
  show _ = _
  kernel_rfl

noncomputable def p_impl_allWithin (a_0 : List Int) (a_1 : Int) (a_2 : Int) : Option Bool :=
  callK (p_slices_ContainsFunc_impl_allWithin_c1 a_0 a_1 a_2) fun y1 =>
  some (!y1)

theorem L_impl_allWithin (a_0 : List Int) (a_1 : Int) (a_2 : Int) {r : Bool} (h : p_impl_allWithin a_0 a_1 a_2 = some r) : callL E 149 [.d (.arr (a_0.map rI)), IN a_1, IN a_2] ([] : Fo) = some (BO r, ([] : Fo)) := by
  unfold p_impl_allWithin at h
  refine callW (fu := Try.f149) rfl rfl rfl NN ?_
  intro lp cl hlp hcl
  conv => lhs; whnf
  obtain ⟨y1, h_y1, h⟩ := callK_inv h
  rw [cl_eq hcl (L_slices_ContainsFunc_impl_allWithin_c1 a_0 a_1 a_2 h_y1)]
  rotate_left
  · show _ = _
    kernel_rfl
  · show _ = _
    kernel_rfl
  conv => lhs; whnf
  obtain rfl := Option.some.inj h
  show _ = _
  kernel_rfl

noncomputable def p_impl_ValidCells (a_0 : Cells) : Option Bool :=
  if (a_0.Charge.length : Int) ≤ 64 then
    callK (p_impl_allWithin a_0.Charge 0 255) fun y1 =>
    some y1
  else
    some false

theorem L_impl_ValidCells (a_0 : Cells) {r : Bool} (h : p_impl_ValidCells a_0 = some r) : callL E 106 [.agg [.d (.arr (a_0.Charge.map rI))]] ([] : Fo) = some (BO r, ([] : Fo)) := by
  unfold p_impl_ValidCells at h
  refine callW (fu := Try.f106) rfl rfl rfl NN ?_
  intro lp cl hlp hcl
  conv => lhs; whnf
  try rw [len_of (l := a_0.Charge) (r := rI)]
  cases hb2 : (decide ((a_0.Charge.length : Int) ≤ 64))
  · replace h := ifF h (decF hb2)
    conv => lhs; whnf
    obtain rfl := Option.some.inj h
    show _ = _
    kernel_rfl
  · replace h := ifT h (decT hb2)
    conv => lhs; whnf
    obtain ⟨y1, h_y1, h⟩ := callK_inv h
    rw [cl_eq hcl (L_impl_allWithin a_0.Charge 0 255 h_y1)]
    rotate_left
    · show _ = _
      kernel_rfl
    · show _ = _
      kernel_rfl
    conv => lhs; whnf
    obtain rfl := Option.some.inj h
    show _ = _
    kernel_rfl

noncomputable def p_impl_ErasePasses_c1 (a_0 : Int) (a_1 : Int) : Option Bool :=
  some (decide (a_0 ≥ a_1))

theorem L_impl_ErasePasses_c1 (a_0 : Int) (a_1 : Int) {r : Bool} (h : p_impl_ErasePasses_c1 a_0 a_1 = some r) : callL E 109 [IN a_0, .bp 0 0] ([some (.box [IN a_1])] : Fo) = some (BO r, ([some (.box [IN a_1])] : Fo)) := by
  unfold p_impl_ErasePasses_c1 at h
  refine callW (fu := Try.f109) rfl rfl rfl NN ?_
  intro lp cl hlp hcl
  conv => lhs; whnf
  obtain rfl := Option.some.inj h
  show _ = _
  kernel_rfl

noncomputable def p_slices_IndexFunc_impl_ErasePasses_c1 (a_0 : List Int) (a_1 : Int) : Option Int :=
  grd (a_0.length < 4611686018427387904) <|
  forK a_0 (fun (i4 : Nat) x6 (_ : Unit) (nx5 : Unit → Option _) =>
    callK (p_impl_ErasePasses_c1 x6 a_1) fun y7 =>
    if y7 = true then
      some (i4 : Int)
    else
      nx5 ()) () (fun (_ : Unit) =>
    some (-1))

theorem L_slices_IndexFunc_impl_ErasePasses_c1 (a_0 : List Int) (a_1 : Int) {r : Int} (h : p_slices_IndexFunc_impl_ErasePasses_c1 a_0 a_1 = some r) : callL E 210 [.d (.arr (a_0.map rI)), .clo 109 [.bp 0 0]] ([some (.box [IN a_1])] : Fo) = some (IN r, ([some (.box [IN a_1])] : Fo)) := by
  unfold p_slices_IndexFunc_impl_ErasePasses_c1 at h
  refine callW (fu := Try.f210) rfl rfl rfl NN ?_
  intro lp cl hlp hcl
  conv => lhs; whnf
  try rw [len_of (l := a_0) (r := rI)]
  obtain ⟨hl_i4, h⟩ := grd_inv h
  refine loop_for hlp (l := a_0) hl_i4 (fun (i4 : Nat) (_ : Unit) => ([.d (.arr (a_0.map rI)), .clo 109 [.bp 0 0], .dead, .dead, .dead, .dead, .dead, IN (a_0.length : Int), IN (i4 : Int)] ++ List.replicate 10 .dead : List V)) (fun (i4 : Nat) (_ : Unit) => ([some (.box [IN a_1])] : Fo)) (fun (r : Int) => ((IN r : V), ([some (.box [IN a_1])] : Fo))) ?_ ?_ () _ (fun kk => by kernel_rfl) h
  · clear h
    rintro next_nx5 nx5 i4 hi_i4 hnx5 ⟨⟩ r h
    try dsimp only at h
    have hn_i4 : i4 < 4611686018427387904 := by omega
    have hx_x6 := get_map rI a_0 i4 hi_i4
    generalize a_0[i4] = x6 at h hx_x6
    have hd_i4 : (decide ((i4 : Int) < (a_0.length : Int))) = true := decide_eq_true (by omega)
    conv => lhs; whnf
    rw [hd_i4]
    conv => lhs; whnf
    try (rw [decide_eq_true hq_x6]; conv => lhs; whnf)
    rw [hx_x6]
    conv => lhs; whnf
    rw [hx_x6]
    conv => lhs; whnf
    obtain ⟨y7, h_y7, h⟩ := callK_inv h
    rw [cl_eq hcl (L_impl_ErasePasses_c1 x6 a_1 h_y7)]
    rotate_left
    · show _ = _
      kernel_rfl
    · show _ = _
      kernel_rfl
    conv => lhs; whnf
    cases hb8 : y7
    · replace h := ifF h (booF hb8)
      conv => lhs; whnf
      rw [wrap_nat i4 (by have := hn_i4; omega)]
      exact hnx5 _ _ _ _ (fun kk => by kernel_rfl) h
    · replace h := ifT h hb8
      conv => lhs; whnf
      obtain rfl := Option.some.inj h
      show _ = _
      kernel_rfl
  · clear h
    rintro next_nx5 ⟨⟩ r h
    try dsimp only at h
    have hd_i4 : (decide ((a_0.length : Int) < (a_0.length : Int))) = false := decide_eq_false (by omega)
    conv => lhs; whnf
    rw [hd_i4]
    conv => lhs; whnf
    obtain rfl := Option.some.inj h
    show _ = _
    kernel_rfl

noncomputable def p_slices_ContainsFunc_impl_ErasePasses_c1 (a_0 : List Int) (a_1 : Int) : Option Bool :=
  callK (p_slices_IndexFunc_impl_ErasePasses_c1 a_0 a_1) fun y1 =>
  some (decide (y1 ≥ 0))

theorem L_slices_ContainsFunc_impl_ErasePasses_c1 (a_0 : List Int) (a_1 : Int) {r : Bool} (h : p_slices_ContainsFunc_impl_ErasePasses_c1 a_0 a_1 = some r) : callL E 108 [.d (.arr (a_0.map rI)), .clo 109 [.bp 0 0]] ([some (.box [IN a_1])] : Fo) = some (BO r, ([some (.box [IN a_1])] : Fo)) := by
  unfold p_slices_ContainsFunc_impl_ErasePasses_c1 at h
  refine callW (fu := Try.f108) rfl rfl rfl NN ?_
  intro lp cl hlp hcl
  conv => lhs; whnf
  obtain ⟨y1, h_y1, h⟩ := callK_inv h
  rw [cl_eq hcl (L_slices_IndexFunc_impl_ErasePasses_c1 a_0 a_1 h_y1)]
  rotate_left
  · show _ = _
    kernel_rfl
  · show _ = _
    kernel_rfl
  conv => lhs; whnf
  obtain rfl := Option.some.inj h
  show _ = _
  kernel_rfl

noncomputable def p_impl_Cells_erased (a_0 : Cells) : Option Cells :=
  grd (appOk a_0.Charge.length 8 = true) <|
  grd (a_0.Charge.length < 4611686018427387904) <|
  forK a_0.Charge (fun (i4 : Nat) x7 (v5 : List Int) (nx6 : (List Int) → Option _) =>
    getK v5 (i4 : Int) fun x8 =>
    nx6 (v5.set (Int.toNat (i4 : Int)) (IntKind.i64.wrap (Int.tdiv x8 4)))) a_0.Charge (fun (v5 : List Int) =>
    some (⟨v5⟩ : Cells))

theorem L_impl_Cells_erased (a_0 : Cells) {r : Cells} (h : p_impl_Cells_erased a_0 = some r) : callL E 110 [.agg [.d (.arr (a_0.Charge.map rI))]] ([] : Fo) = some (.agg [.d (.arr (r.Charge.map rI))], ([] : Fo)) := by
  unfold p_impl_Cells_erased at h
  refine callW (fu := Try.f110) rfl rfl rfl NN ?_
  intro lp cl hlp hcl
  conv => lhs; whnf
  obtain ⟨hg9, h⟩ := grd_inv h
  rw [cl_eq hcl (f_clone (rows := a_0.Charge.map rI) rfl (app_eq hg9 (List.length_map ..) rfl) (allLen_map rI _ rI_len _) rfl)]
  rotate_left
  · exact rfl
  · exact rfl
  conv => lhs; whnf
  try rw [len_of (l := a_0.Charge) (r := rI)]
  obtain ⟨hl_i4, h⟩ := grd_inv h
  refine loop_for hlp (l := a_0.Charge) hl_i4 (fun (i4 : Nat) (v5 : List Int) => ([.dead, .dead, .bp 0 0, .bp 1 0, .dead, .dead, .dead, .dead, .dead, .dead, .dead, IN (a_0.Charge.length : Int), IN (i4 : Int)] ++ List.replicate 11 .dead : List V)) (fun (i4 : Nat) (v5 : List Int) => ([some (.box [.d (.arr (([] : List Int).map rI))]), some (.box [.sl 2]), some (.arr 2 1 (v5.map rI))] : Fo)) (fun (r : Cells) => ((.agg [.d (.arr (r.Charge.map rI))] : V), ([] : Fo))) ?_ ?_ a_0.Charge _ (fun kk => by kernel_rfl) h
  · clear h
    rintro next_nx6 nx6 i4 hi_i4 hnx6 v5 r h
    try dsimp only at h
    have hn_i4 : i4 < 4611686018427387904 := by omega
    have hx_x7 := get_map rI a_0.Charge i4 hi_i4
    generalize a_0.Charge[i4] = x7 at h hx_x7
    have hd_i4 : (decide ((i4 : Int) < (a_0.Charge.length : Int))) = true := decide_eq_true (by omega)
    conv => lhs; whnf
    rw [hd_i4]
    conv => lhs; whnf
    obtain ⟨x8, hq_x8, hx_x8', h⟩ := getK_inv h
    have hx_x8 := get_of (r := rI) hx_x8'
    try (rw [decide_eq_true hq_x8]; conv => lhs; whnf)
    rw [hx_x8]
    conv => lhs; whnf
    rw [hx_x8]
    conv => lhs; whnf
    try (rw [quo_run _ _ _ 4 (by decide)]; conv => lhs; whnf)
    conv => lhs; whnf
    try (rw [decide_eq_true hq_x8]; conv => lhs; whnf)
    rw [hx_x8]
    conv => lhs; whnf
    rw [hx_x8]
    conv => lhs; whnf
    first | (rw [map_set_of (r := rI) (l := v5) (x := (IntKind.i64.wrap (Int.tdiv x8 4))) ?hh]; case hh => exact rfl) | skip
    rw [wrap_nat i4 (by have := hn_i4; omega)]
    exact hnx6 _ _ _ _ (fun kk => by kernel_rfl) h
  · clear h
    rintro next_nx6 v5 r h
    try dsimp only at h
    have hd_i4 : (decide ((a_0.Charge.length : Int) < (a_0.Charge.length : Int))) = false := decide_eq_false (by omega)
    conv => lhs; whnf
    rw [hd_i4]
    conv => lhs; whnf
    obtain rfl := Option.some.inj h
    show _ = _
    kernel_rfl

noncomputable def p_impl_ErasePasses (a_0 : Cells) (a_1 : Int) : Option Int :=
  callK (p_impl_ValidCells a_0) fun y1 =>
  if y1 = true then
    if (inR a_1 1 255) = true then
      iterK (fun ((v2, v3) : (Int × Cells)) (nx4 : (Int × Cells) → Option _) =>
        callK (p_slices_ContainsFunc_impl_ErasePasses_c1 v3.Charge a_1) fun y5 =>
        if y5 = true then
          callK (p_impl_Cells_erased v3) fun y6 =>
          nx4 ((IntKind.i64.wrap (v2 + 1)), y6)
        else
          some v2) NN (0, a_0)
    else
      some (-1)
  else
    some (-1)

theorem L_impl_ErasePasses (a_0 : Cells) (a_1 : Int) {r : Int} (h : p_impl_ErasePasses a_0 a_1 = some r) : callL E 16 [.agg [.d (.arr (a_0.Charge.map rI))], IN a_1] ([] : Fo) = some (IN r, ([] : Fo)) := by
  unfold p_impl_ErasePasses at h
  refine callW (fu := Try.f16) rfl rfl rfl NN ?_
  intro lp cl hlp hcl
  conv => lhs; whnf
  obtain ⟨y1, h_y1, h⟩ := callK_inv h
  rw [cl_eq hcl (L_impl_ValidCells a_0 h_y1)]
  rotate_left
  · show _ = _
    kernel_rfl
  · show _ = _
    kernel_rfl
  conv => lhs; whnf
  cases hb7 : y1
  · replace h := ifF h (booF hb7)
    conv => lhs; whnf
    obtain rfl := Option.some.inj h
    show _ = _
    kernel_rfl
  · replace h := ifT h hb7
    conv => lhs; whnf
    rw [cl_eq hcl (L_impl_within a_1 1 255 (pl_within a_1 1 255))]
    rotate_left
    · show _ = _
      kernel_rfl
    · show _ = _
      kernel_rfl
    conv => lhs; whnf
    cases hb8 : (inR a_1 1 255)
    · replace h := ifF h (booF hb8)
      conv => lhs; whnf
      obtain rfl := Option.some.inj h
      show _ = _
      kernel_rfl
    · replace h := ifT h hb8
      conv => lhs; whnf
      refine loop_iter hlp (fun ((v2, v3) : (Int × Cells)) => ([.dead, .dead, .bp 0 0, .bp 1 0, .dead, IN v2] ++ List.replicate 17 .dead : List V)) (fun ((v2, v3) : (Int × Cells)) => ([some (.box [.d (.arr (v3.Charge.map rI))]), some (.box [IN a_1])] : Fo)) (fun (r : Int) => ((IN r : V), ([] : Fo))) ?_ (0, a_0) _ (fun kk => by kernel_rfl) h
      clear h
      rintro next_nx4 nx4 hnx4 ⟨v2, v3⟩ r h
      try dsimp only at h
      conv => lhs; whnf
      obtain ⟨y5, h_y5, h⟩ := callK_inv h
      rw [cl_eq hcl (L_slices_ContainsFunc_impl_ErasePasses_c1 v3.Charge a_1 h_y5)]
      rotate_left
      · show _ = _
        kernel_rfl
      · show _ = _
        kernel_rfl
      conv => lhs; whnf
      cases hb9 : y5
      · replace h := ifF h (booF hb9)
        conv => lhs; whnf
        obtain rfl := Option.some.inj h
        show _ = _
        kernel_rfl
      · replace h := ifT h hb9
        conv => lhs; whnf
        obtain ⟨y6, h_y6, h⟩ := callK_inv h
        rw [cl_eq hcl (L_impl_Cells_erased v3 h_y6)]
        rotate_left
        · show _ = _
          kernel_rfl
        · show _ = _
          kernel_rfl
        conv => lhs; whnf
        exact hnx4 _ _ _ _ (fun kk => by kernel_rfl) h

noncomputable def p_spec_ValidCells (a_0 : Cells) : Option Bool :=
  if (a_0.Charge.length : Int) > 64 then
    some false
  else
    grd (a_0.Charge.length < 4611686018427387904) <|
    forK a_0.Charge (fun (i3 : Nat) x5 (_ : Unit) (nx4 : Unit → Option _) =>
      if (inR x5 0 255) = true then
        nx4 ()
      else
        some false) () (fun (_ : Unit) =>
      some true)

theorem L_spec_ValidCells (a_0 : Cells) {r : Bool} (h : p_spec_ValidCells a_0 = some r) : callL E 111 [.agg [.d (.arr (a_0.Charge.map rI))]] ([] : Fo) = some (BO r, ([] : Fo)) := by
  unfold p_spec_ValidCells at h
  refine callW (fu := Try.f111) rfl rfl rfl NN ?_
  intro lp cl hlp hcl
  conv => lhs; whnf
  try rw [len_of (l := a_0.Charge) (r := rI)]
  cases hb6 : (decide ((a_0.Charge.length : Int) > 64))
  · replace h := ifF h (decF hb6)
    conv => lhs; whnf
    obtain ⟨hl_i3, h⟩ := grd_inv h
    refine loop_for hlp (l := a_0.Charge) hl_i3 (fun (i3 : Nat) (_ : Unit) => ([.dead, .bp 0 0, .dead, IN (i3 : Int)] ++ List.replicate 18 .dead : List V)) (fun (i3 : Nat) (_ : Unit) => ([some (.box [.d (.arr (a_0.Charge.map rI))])] : Fo)) (fun (r : Bool) => ((BO r : V), ([] : Fo))) ?_ ?_ () _ (fun kk => by kernel_rfl) h
    · clear h
      rintro next_nx4 nx4 i3 hi_i3 hnx4 ⟨⟩ r h
      try dsimp only at h
      have hn_i3 : i3 < 4611686018427387904 := by omega
      have hx_x5 := get_map rI a_0.Charge i3 hi_i3
      generalize a_0.Charge[i3] = x5 at h hx_x5
      have hd_i3 : (decide ((i3 : Int) < (a_0.Charge.length : Int))) = true := decide_eq_true (by omega)
      conv => lhs; whnf
      try rw [len_of (l := a_0.Charge) (r := rI)]
      rw [hd_i3]
      conv => lhs; whnf
      try (rw [decide_eq_true hq_x5]; conv => lhs; whnf)
      rw [hx_x5]
      conv => lhs; whnf
      rw [hx_x5]
      conv => lhs; whnf
      rw [cl_eq hcl (L_spec_l00In x5 0 255 (pl_l00In x5 0 255))]
      rotate_left
      · show _ = _
        kernel_rfl
      · show _ = _
        kernel_rfl
      conv => lhs; whnf
      cases hb7 : (inR x5 0 255)
      · replace h := ifF h (booF hb7)
        conv => lhs; whnf
        obtain rfl := Option.some.inj h
        show _ = _
        kernel_rfl
      · replace h := ifT h hb7
        conv => lhs; whnf
        rw [wrap_nat i3 (by have := hn_i3; omega)]
        exact hnx4 _ _ _ _ (fun kk => by kernel_rfl) h
    · clear h
      rintro next_nx4 ⟨⟩ r h
      try dsimp only at h
      have hd_i3 : (decide ((a_0.Charge.length : Int) < (a_0.Charge.length : Int))) = false := decide_eq_false (by omega)
      conv => lhs; whnf
      try rw [len_of (l := a_0.Charge) (r := rI)]
      rw [hd_i3]
      conv => lhs; whnf
      obtain rfl := Option.some.inj h
      show _ = _
      kernel_rfl
  · replace h := ifT h (decT hb6)
    conv => lhs; whnf
    obtain rfl := Option.some.inj h
    show _ = _
    kernel_rfl

noncomputable def p_spec_l00Max (a_0 : Int) (a_1 : Int) : Option Int :=
  if a_0 > a_1 then
    some a_0
  else
    some a_1

theorem L_spec_l00Max (a_0 : Int) (a_1 : Int) {r : Int} (h : p_spec_l00Max a_0 a_1 = some r) : callL E 113 [IN a_0, IN a_1] ([] : Fo) = some (IN r, ([] : Fo)) := by
  unfold p_spec_l00Max at h
  refine callW (fu := Try.f113) rfl rfl rfl NN ?_
  intro lp cl hlp hcl
  conv => lhs; whnf
  cases hb1 : (decide (a_0 > a_1))
  · replace h := ifF h (decF hb1)
    conv => lhs; whnf
    obtain rfl := Option.some.inj h
    show _ = _
    kernel_rfl
  · replace h := ifT h (decT hb1)
    conv => lhs; whnf
    obtain rfl := Option.some.inj h
    show _ = _
    kernel_rfl

noncomputable def p_spec_ErasePasses (a_0 : Cells) (a_1 : Int) : Option Int :=
  callK (p_spec_ValidCells a_0) fun y1 =>
  if y1 = true then
    if (inR a_1 1 255) = true then
      grd (a_0.Charge.length < 4611686018427387904) <|
      forK a_0.Charge (fun (i6 : Nat) x9 (v7 : Int) (nx8 : Int → Option _) =>
        callK (p_spec_l00Max v7 x9) fun y10 =>
        nx8 y10) 0 (fun (v7 : Int) =>
        iterK (fun ((v11, v12) : (Int × Int)) (nx13 : (Int × Int) → Option _) =>
          if v11 ≥ a_1 then
            nx13 ((IntKind.i64.wrap (Int.tdiv v11 4)), (IntKind.i64.wrap (v12 + 1)))
          else
            some v12) NN (v7, 0))
    else
      some (-1)
  else
    some (-1)

theorem L_spec_ErasePasses (a_0 : Cells) (a_1 : Int) {r : Int} (h : p_spec_ErasePasses a_0 a_1 = some r) : callL E 17 [.agg [.d (.arr (a_0.Charge.map rI))], IN a_1] ([] : Fo) = some (IN r, ([] : Fo)) := by
  unfold p_spec_ErasePasses at h
  refine callW (fu := Try.f17) rfl rfl rfl NN ?_
  intro lp cl hlp hcl
  conv => lhs; whnf
  obtain ⟨y1, h_y1, h⟩ := callK_inv h
  rw [cl_eq hcl (L_spec_ValidCells a_0 h_y1)]
  rotate_left
  · show _ = _
    kernel_rfl
  · show _ = _
    kernel_rfl
  conv => lhs; whnf
  cases hb14 : y1
  · replace h := ifF h (booF hb14)
    conv => lhs; whnf
    obtain rfl := Option.some.inj h
    show _ = _
    kernel_rfl
  · replace h := ifT h hb14
    conv => lhs; whnf
    rw [cl_eq hcl (L_spec_l00In a_1 1 255 (pl_l00In a_1 1 255))]
    rotate_left
    · show _ = _
      kernel_rfl
    · show _ = _
      kernel_rfl
    conv => lhs; whnf
    cases hb15 : (inR a_1 1 255)
    · replace h := ifF h (booF hb15)
      conv => lhs; whnf
      obtain rfl := Option.some.inj h
      show _ = _
      kernel_rfl
    · replace h := ifT h hb15
      conv => lhs; whnf
      obtain ⟨hl_i6, h⟩ := grd_inv h
      refine loop_for hlp (l := a_0.Charge) hl_i6 (fun (i6 : Nat) (v7 : Int) => ([.dead, IN a_1, .bp 0 0, .dead, .dead, IN v7, IN (i6 : Int)] ++ List.replicate 31 .dead : List V)) (fun (i6 : Nat) (v7 : Int) => ([some (.box [.d (.arr (a_0.Charge.map rI))])] : Fo)) (fun (r : Int) => ((IN r : V), ([] : Fo))) ?_ ?_ 0 _ (fun kk => by kernel_rfl) h
      · clear h
        rintro next_nx8 nx8 i6 hi_i6 hnx8 v7 r h
        try dsimp only at h
        have hn_i6 : i6 < 4611686018427387904 := by omega
        have hx_x9 := get_map rI a_0.Charge i6 hi_i6
        generalize a_0.Charge[i6] = x9 at h hx_x9
        have hd_i6 : (decide ((i6 : Int) < (a_0.Charge.length : Int))) = true := decide_eq_true (by omega)
        conv => lhs; whnf
        try rw [len_of (l := a_0.Charge) (r := rI)]
        rw [hd_i6]
        conv => lhs; whnf
        try (rw [decide_eq_true hq_x9]; conv => lhs; whnf)
        rw [hx_x9]
        conv => lhs; whnf
        rw [hx_x9]
        conv => lhs; whnf
        obtain ⟨y10, h_y10, h⟩ := callK_inv h
        rw [cl_eq hcl (L_spec_l00Max v7 x9 h_y10)]
        rotate_left
        · show _ = _
          kernel_rfl
        · show _ = _
          kernel_rfl
        conv => lhs; whnf
        rw [wrap_nat i6 (by have := hn_i6; omega)]
        exact hnx8 _ _ _ _ (fun kk => by kernel_rfl) h
      · clear h
        rintro next_nx8 v7 r h
        try dsimp only at h
        have hd_i6 : (decide ((a_0.Charge.length : Int) < (a_0.Charge.length : Int))) = false := decide_eq_false (by omega)
        conv => lhs; whnf
        try rw [len_of (l := a_0.Charge) (r := rI)]
        rw [hd_i6]
        conv => lhs; whnf
        refine loop_iter hlp (fun ((v11, v12) : (Int × Int)) => ([.dead, IN a_1, .dead, .dead, .dead, IN v11, .dead, IN v12] ++ List.replicate 30 .dead : List V)) (fun ((v11, v12) : (Int × Int)) => ([] : Fo)) (fun (r : Int) => ((IN r : V), ([] : Fo))) ?_ (v7, 0) _ (fun kk => by kernel_rfl) h
        clear h
        rintro next_nx13 nx13 hnx13 ⟨v11, v12⟩ r h
        try dsimp only at h
        conv => lhs; whnf
        cases hb16 : (decide (v11 ≥ a_1))
        · replace h := ifF h (decF hb16)
          conv => lhs; whnf
          obtain rfl := Option.some.inj h
          show _ = _
          kernel_rfl
        · replace h := ifT h (decT hb16)
          conv => lhs; whnf
          try (rw [quo_run _ _ _ 4 (by decide)]; conv => lhs; whnf)
          conv => lhs; whnf
          exact hnx13 _ _ _ _ (fun kk => by kernel_rfl) h

noncomputable def p_impl_EraseCells (a_0 : Cells) : Option Cells :=
  callK (p_impl_ValidCells a_0) fun y1 =>
  if y1 = true then
    callK (p_impl_Cells_erased a_0) fun y2 =>
    some y2
  else
    some (⟨([] : List Int)⟩ : Cells)

theorem L_impl_EraseCells (a_0 : Cells) {r : Cells} (h : p_impl_EraseCells a_0 = some r) : callL E 18 [.agg [.d (.arr (a_0.Charge.map rI))]] ([] : Fo) = some (.agg [.d (.arr (r.Charge.map rI))], ([] : Fo)) := by
  unfold p_impl_EraseCells at h
  refine callW (fu := Try.f18) rfl rfl rfl NN ?_
  intro lp cl hlp hcl
  conv => lhs; whnf
  obtain ⟨y1, h_y1, h⟩ := callK_inv h
  rw [cl_eq hcl (L_impl_ValidCells a_0 h_y1)]
  rotate_left
  · show _ = _
    kernel_rfl
  · show _ = _
    kernel_rfl
  conv => lhs; whnf
  cases hb3 : y1
  · replace h := ifF h (booF hb3)
    conv => lhs; whnf
    obtain rfl := Option.some.inj h
    show _ = _
    kernel_rfl
  · replace h := ifT h hb3
    conv => lhs; whnf
    obtain ⟨y2, h_y2, h⟩ := callK_inv h
    rw [cl_eq hcl (L_impl_Cells_erased a_0 h_y2)]
    rotate_left
    · show _ = _
      kernel_rfl
    · show _ = _
      kernel_rfl
    conv => lhs; whnf
    obtain rfl := Option.some.inj h
    show _ = _
    kernel_rfl

noncomputable def p_laws_FnErasePasses (a_0 : List Int) : Option Bool :=
  if (a_0.length : Int) > 400 then
    some true
  else
    callK (p_spec_DrawErasePasses a_0) fun y1 =>
    callK (p_impl_ErasePasses y1.1 y1.2) fun y2 =>
    callK (p_spec_ErasePasses y1.1 y1.2) fun y3 =>
    if ¬ y2 = y3 then
      some false
    else
      grd (y2 < 4611686018427387904) <|
      forI y2 (fun (i14 : Nat) (v15 : Cells) (nx16 : Cells → Option _) =>
        grd (v15.Charge.length < 4611686018427387904) <|
        forK v15.Charge (fun (i20 : Nat) x23 (v21 : Int) (nx22 : Int → Option _) =>
          nx22 (if x23 > v21 then x23 else v21)) 0 (fun (v21 : Int) =>
          if v21 < y1.2 then
            some false
          else
            callK (p_impl_EraseCells v15) fun y24 =>
            nx16 y24)) y1.1 (fun (v15 : Cells) =>
        grd (v15.Charge.length < 4611686018427387904) <|
        forK v15.Charge (fun (i27 : Nat) x29 (_ : Unit) (nx28 : Unit → Option _) =>
          if y2 ≥ 0 then
            if x29 ≥ y1.2 then
              some false
            else
              nx28 ()
          else
            some true) () (fun (_ : Unit) =>
          some true))

theorem L_laws_FnErasePasses (a_0 : List Int) {r : Bool} (h : p_laws_FnErasePasses a_0 = some r) : callL E 3 [.d (.arr (a_0.map rU))] ([] : Fo) = some (BO r, ([] : Fo)) := by
  unfold p_laws_FnErasePasses at h
  refine callW (fu := Try.f3) rfl rfl rfl NN ?_
  intro lp cl hlp hcl
  conv => lhs; whnf
  try rw [len_of (l := a_0) (r := rU)]
  cases hb30 : (decide ((a_0.length : Int) > 400))
  · replace h := ifF h (decF hb30)
    conv => lhs; whnf
    obtain ⟨y1, h_y1, h⟩ := callK_inv h
    rw [cl_eq hcl (L_spec_DrawErasePasses a_0 h_y1)]
    rotate_left
    · show _ = _
      kernel_rfl
    · show _ = _
      kernel_rfl
    conv => lhs; whnf
    obtain ⟨y2, h_y2, h⟩ := callK_inv h
    rw [cl_eq hcl (L_impl_ErasePasses y1.1 y1.2 h_y2)]
    rotate_left
    · show _ = _
      kernel_rfl
    · show _ = _
      kernel_rfl
    conv => lhs; whnf
    obtain ⟨y3, h_y3, h⟩ := callK_inv h
    rw [cl_eq hcl (L_spec_ErasePasses y1.1 y1.2 h_y3)]
    rotate_left
    · show _ = _
      kernel_rfl
    · show _ = _
      kernel_rfl
    conv => lhs; whnf
    cases hb31 : (y2 != y3)
    · replace h := ifF h ((fun h => not_not_intro (bneF h)) hb31)
      conv => lhs; whnf
      obtain ⟨hl_i14, h⟩ := grd_inv h
      refine loop_forI hlp (n := y2) hl_i14 (fun (i14 : Nat) (v15 : Cells) => ([.dead, .dead, .dead, .bp 0 0, IN y1.2, IN y2, IN (i14 : Int)] ++ List.replicate 61 .dead : List V)) (fun (i14 : Nat) (v15 : Cells) => ([some (.box [.d (.arr (v15.Charge.map rI))])] : Fo)) (fun (r : Bool) => ((BO r : V), ([] : Fo))) ?_ ?_ y1.1 _ (fun kk => by kernel_rfl) h
      · clear h
        rintro next_nx16 nx16 i14 hi_i14 hnx16 v15 r h
        try dsimp only at h
        have hn_i14 : i14 < 4611686018427387904 := by omega
        have hd_i14 : (decide ((i14 : Int) < y2)) = true := decide_eq_true (by omega)
        conv => lhs; whnf
        rw [hd_i14]
        conv => lhs; whnf
        obtain ⟨hl_i20, h⟩ := grd_inv h
        refine loop_for hlp (l := v15.Charge) hl_i20 (fun (i20 : Nat) (v21 : Int) => ([.dead, .dead, .dead, .bp 0 0, IN y1.2, IN y2, IN (i14 : Int), IN v21, IN (i20 : Int)] ++ List.replicate 59 .dead : List V)) (fun (i20 : Nat) (v21 : Int) => ([some (.box [.d (.arr (v15.Charge.map rI))])] : Fo)) (fun (r : Bool) => ((BO r : V), ([] : Fo))) ?_ ?_ 0 _ (fun kk => by kernel_rfl) h
        · clear h
          rintro next_nx22 nx22 i20 hi_i20 hnx22 v21 r h
          try dsimp only at h
          have hn_i20 : i20 < 4611686018427387904 := by omega
          have hx_x23 := get_map rI v15.Charge i20 hi_i20
          generalize v15.Charge[i20] = x23 at h hx_x23
          have hd_i20 : (decide ((i20 : Int) < (v15.Charge.length : Int))) = true := decide_eq_true (by omega)
          conv => lhs; whnf
          try rw [len_of (l := v15.Charge) (r := rI)]
          rw [hd_i20]
          conv => lhs; whnf
          try (rw [decide_eq_true hq_x23]; conv => lhs; whnf)
          rw [hx_x23]
          conv => lhs; whnf
          rw [hx_x23]
          conv => lhs; whnf
          rw [wrap_nat i20 (by have := hn_i20; omega)]
          exact hnx22 _ _ _ _ (fun kk => by kernel_rfl) h
        · clear h
          rintro next_nx22 v21 r h
          try dsimp only at h
          have hd_i20 : (decide ((v15.Charge.length : Int) < (v15.Charge.length : Int))) = false := decide_eq_false (by omega)
          conv => lhs; whnf
          try rw [len_of (l := v15.Charge) (r := rI)]
          rw [hd_i20]
          conv => lhs; whnf
          cases hb32 : (decide (v21 < y1.2))
          · replace h := ifF h (decF hb32)
            conv => lhs; whnf
            obtain ⟨y24, h_y24, h⟩ := callK_inv h
            rw [cl_eq hcl (L_impl_EraseCells v15 h_y24)]
            rotate_left
            · show _ = _
              kernel_rfl
            · show _ = _
              kernel_rfl
            conv => lhs; whnf
            rw [wrap_nat i14 (by have := hn_i14; omega)]
            exact hnx16 _ _ _ _ (fun kk => by kernel_rfl) h
          · replace h := ifT h (decT hb32)
            conv => lhs; whnf
            obtain rfl := Option.some.inj h
            show _ = _
            kernel_rfl
      · clear h
        rintro next_nx16 v15 r h
        try dsimp only at h
        have hd_i14 : (decide (((Int.toNat y2) : Int) < y2)) = false := decide_eq_false (by omega)
        conv => lhs; whnf
        rw [hd_i14]
        conv => lhs; whnf
        obtain ⟨hl_i27, h⟩ := grd_inv h
        refine loop_for hlp (l := v15.Charge) hl_i27 (fun (i27 : Nat) (_ : Unit) => ([.dead, .dead, .dead, .bp 0 0, IN y1.2, IN y2, .dead, .dead, .dead, IN (i27 : Int)] ++ List.replicate 58 .dead : List V)) (fun (i27 : Nat) (_ : Unit) => ([some (.box [.d (.arr (v15.Charge.map rI))])] : Fo)) (fun (r : Bool) => ((BO r : V), ([] : Fo))) ?_ ?_ () _ (fun kk => by kernel_rfl) h
        · clear h
          rintro next_nx28 nx28 i27 hi_i27 hnx28 ⟨⟩ r h
          try dsimp only at h
          have hn_i27 : i27 < 4611686018427387904 := by omega
          have hx_x29 := get_map rI v15.Charge i27 hi_i27
          generalize v15.Charge[i27] = x29 at h hx_x29
          have hd_i27 : (decide ((i27 : Int) < (v15.Charge.length : Int))) = true := decide_eq_true (by omega)
          conv => lhs; whnf
          try rw [len_of (l := v15.Charge) (r := rI)]
          rw [hd_i27]
          conv => lhs; whnf
          cases hb33 : (decide (y2 ≥ 0))
          · replace h := ifF h (decF hb33)
            conv => lhs; whnf
            obtain rfl := Option.some.inj h
            show _ = _
            kernel_rfl
          · replace h := ifT h (decT hb33)
            conv => lhs; whnf
            try (rw [decide_eq_true hq_x29]; conv => lhs; whnf)
            rw [hx_x29]
            conv => lhs; whnf
            rw [hx_x29]
            conv => lhs; whnf
            cases hb34 : (decide (x29 ≥ y1.2))
            · replace h := ifF h (decF hb34)
              conv => lhs; whnf
              rw [wrap_nat i27 (by have := hn_i27; omega)]
              exact hnx28 _ _ _ _ (fun kk => by kernel_rfl) h
            · replace h := ifT h (decT hb34)
              conv => lhs; whnf
              obtain rfl := Option.some.inj h
              show _ = _
              kernel_rfl
        · clear h
          rintro next_nx28 ⟨⟩ r h
          try dsimp only at h
          have hd_i27 : (decide ((v15.Charge.length : Int) < (v15.Charge.length : Int))) = false := decide_eq_false (by omega)
          conv => lhs; whnf
          try rw [len_of (l := v15.Charge) (r := rI)]
          rw [hd_i27]
          conv => lhs; whnf
          obtain rfl := Option.some.inj h
          show _ = _
          kernel_rfl
    · replace h := ifT h (bneT hb31)
      conv => lhs; whnf
      obtain rfl := Option.some.inj h
      show _ = _
      kernel_rfl
  · replace h := ifT h (decT hb30)
    conv => lhs; whnf
    obtain rfl := Option.some.inj h
    show _ = _
    kernel_rfl
theorem amongO_ok {b : Int} {s : Sl00Src} (l : List Int) (hl : 0 < l.length) (hb : 0 ≤ b) (h : SrcOk (b + 2) s) : ∃ r s', p_spec_l00Src_among' s l = some (r, s') ∧ r ∈ l ∧ SrcOk b s' := by
  obtain ⟨r, s1, e1, ⟨b1, b2, b3⟩, o1⟩ := pick_ok (l.length : Int) hb h
  unfold p_spec_l00Src_among'
  have hr : r < (l.length : Int) := by
    rcases Nat.lt_or_ge 1 l.length with h | h
    · exact b2 (by omega)
    · have := b3 (by omega); omega
  rw [e1, callK_some, getK_in b1 hr]
  exact ⟨_, _, rfl, List.getElem_mem _, o1⟩

def okCells (c : Cells) : Bool := decide (c.Charge.length ≤ 64) && c.Charge.all (fun x => inR x 0 255)
theorem okCells_iff {c : Cells} : okCells c = true ↔ c.Charge.length ≤ 64 ∧ ∀ x ∈ c.Charge, 0 ≤ x ∧ x ≤ 255 := by
  unfold okCells
  simp only [Bool.and_eq_true, decide_eq_true_eq, List.all_eq_true, inR_iff]
theorem any_not {α : Type} (p : α → Bool) (l : List α) : (!l.any (fun x => !p x)) = l.all p := by rw [List.not_any_eq_all_not]; simp
theorem pl_within1 (x a b : Int) : p_impl_allWithin_c1 x a b = some (!inR x a b) := by unfold p_impl_allWithin_c1; simp
theorem pl_iOk (c : Cells) : p_impl_ValidCells c = some (okCells c) := by
  unfold p_impl_ValidCells okCells
  split
  · rename_i h
    unfold p_impl_allWithin p_slices_ContainsFunc_impl_allWithin_c1 p_slices_IndexFunc_impl_allWithin_c1
    rw [grd_pos (by omega), forK_idx (p := fun x => !inR x 0 255) (fun x => pl_within1 x 0 255), decide_eq_true (by omega)]
    simp only [callK_some, idxP_any, any_not, Bool.true_and]
  · rename_i h
    rw [decide_eq_false (by omega)]; rfl
theorem pl_sOk (c : Cells) : p_spec_ValidCells c = some (okCells c) := by
  unfold p_spec_ValidCells okCells
  split
  · rename_i h; rw [decide_eq_false (by omega)]; rfl
  · rename_i h
    rw [grd_pos (by omega), decide_eq_true (by omega), forK_all (fun x => inR x 0 255) (some false) (fun i x nx => rfl)]
    cases c.Charge.all (fun x => inR x 0 255) <;> rfl
/-- The greatest. -/
def mxS (v x : Int) : Int := if x > v then x else v
def mx (l : List Int) : Int := l.foldl mxS 0
theorem mx_go (l : List Int) : ∀ v, v ≤ l.foldl mxS v ∧ (∀ x ∈ l, x ≤ l.foldl mxS v) ∧ (l.foldl mxS v = v ∨ l.foldl mxS v ∈ l) := by
  induction l with
  | nil => intro v; exact ⟨Int.le_refl _, fun x h => (by simp at h), .inl rfl⟩
  | cons a l ih =>
    intro v
    obtain ⟨h1, h2, h3⟩ := ih (mxS v a)
    have hm : v ≤ mxS v a ∧ a ≤ mxS v a ∧ (mxS v a = v ∨ mxS v a = a) := by unfold mxS; split <;> omega
    rw [List.foldl_cons]
    refine ⟨by omega, fun x hx => ?_, ?_⟩
    · rcases List.mem_cons.mp hx with rfl | hx
      · omega
      · exact h2 x hx
    · rcases h3 with h3 | h3
      · rcases hm.2.2 with h4 | h4
        · exact .inl (by omega)
        · exact .inr (by rw [h3, h4]; simp)
      · exact .inr (List.mem_cons_of_mem _ h3)
theorem mx_q (l : List Int) (h : ∀ x ∈ l, 0 ≤ x) : ∀ v, 0 ≤ v → (l.map (fun x => Int.tdiv x 4)).foldl mxS (Int.tdiv v 4) = Int.tdiv (l.foldl mxS v) 4 := by
  induction l with
  | nil => intro v _; rfl
  | cons a l ih =>
    intro v hv
    have ha := h a (by simp)
    have e : mxS (Int.tdiv v 4) (Int.tdiv a 4) = Int.tdiv (mxS v a) 4 := by
      unfold mxS
      rw [Int.tdiv_eq_ediv_of_nonneg hv, Int.tdiv_eq_ediv_of_nonneg ha]
      split <;> split <;> (rw [Int.tdiv_eq_ediv_of_nonneg (by omega)]; try omega)
    rw [List.map_cons, List.foldl_cons, List.foldl_cons, e]
    exact ih (fun x hx => h x (by simp [hx])) _ (by unfold mxS; split <;> omega)
theorem mx_in {c : Cells} (h : okCells c = true) : 0 ≤ mx c.Charge ∧ mx c.Charge ≤ 255 := by
  obtain ⟨_, h2⟩ := okCells_iff.mp h
  obtain ⟨g1, g2, g3⟩ := mx_go c.Charge 0
  refine ⟨g1, ?_⟩
  rcases g3 with g3 | g3
  · unfold mx; omega
  · exact (h2 _ g3).2
def ers (c : Cells) : Cells := ⟨c.Charge.map (fun x => Int.tdiv x 4)⟩
theorem ers_ok {c : Cells} (h : okCells c = true) : okCells (ers c) = true ∧ mx (ers c).Charge = mx c.Charge / 4 := by
  have hm := mx_in h
  obtain ⟨h1, h2⟩ := okCells_iff.mp h
  refine ⟨okCells_iff.mpr ⟨by simpa [ers] using h1, fun x hx => ?_⟩, ?_⟩
  · simp only [ers, List.mem_map] at hx
    obtain ⟨y, hy, rfl⟩ := hx
    have := h2 y hy
    rw [Int.tdiv_eq_ediv_of_nonneg this.1]; omega
  · have := mx_q c.Charge (fun x hx => (h2 x hx).1) 0 (Int.le_refl _)
    rw [← Int.tdiv_eq_ediv_of_nonneg hm.1]
    exact this
theorem pl_erased {c : Cells} (h : okCells c = true) : p_impl_Cells_erased c = some (ers c) := by
  obtain ⟨h1, h2⟩ := okCells_iff.mp h
  unfold p_impl_Cells_erased
  rw [grd_pos (appOk_of _ _ (by omega)), grd_pos (by omega), forK_upd (fun x => IntKind.i64.wrap (Int.tdiv x 4)) (fun i x v nx => rfl)]
  unfold ers
  congr 2
  refine List.map_congr_left fun x hx => ?_
  have := h2 x hx
  rw [Int.tdiv_eq_ediv_of_nonneg this.1, wrap_sm _ (by omega) (by omega)]
/-- How often, for a charge of at most 255. -/
def pas (lv h : Int) : Int := if h < lv then 0 else if h / 4 < lv then 1 else if h / 16 < lv then 2 else if h / 64 < lv then 3 else 4
theorem pas_0 {lv h : Int} (h1 : 1 ≤ lv) (h2 : 0 ≤ h) (h3 : h ≤ 255) : (pas lv h = 0 ↔ h < lv) ∧ 0 ≤ pas lv h ∧ pas lv h ≤ 4 := by
  unfold pas; repeat' split
  all_goals omega
theorem pas_s {lv h : Int} (h1 : 1 ≤ lv) (h2 : 0 ≤ h) (h3 : h ≤ 255) (h4 : ¬ h < lv) : pas lv (h / 4) = pas lv h - 1 := by
  unfold pas; repeat' split
  all_goals omega
theorem any_mx {c : Cells} {lv : Int} (h1 : 1 ≤ lv) : (c.Charge.any fun x => decide (x ≥ lv)) = decide (mx c.Charge ≥ lv) := by
  obtain ⟨g1, g2, g3⟩ := mx_go c.Charge 0
  rw [Bool.eq_iff_iff, List.any_eq_true, decide_eq_true_eq]
  constructor
  · rintro ⟨x, hx, h⟩
    have := g2 x hx
    have := of_decide_eq_true h
    unfold mx; omega
  · intro h
    rcases g3 with g3 | g3
    · unfold mx at h; omega
    · exact ⟨_, g3, decide_eq_true h⟩
theorem pl_contains {c : Cells} {lv : Int} (h : okCells c = true) (h1 : 1 ≤ lv) : p_slices_ContainsFunc_impl_ErasePasses_c1 c.Charge lv = some (decide (mx c.Charge ≥ lv)) := by
  obtain ⟨h2, _⟩ := okCells_iff.mp h
  unfold p_slices_ContainsFunc_impl_ErasePasses_c1 p_slices_IndexFunc_impl_ErasePasses_c1
  have hp : ∀ x, p_impl_ErasePasses_c1 x lv = some (decide (x ≥ lv)) := fun x => rfl
  rw [grd_pos (by omega), forK_idx hp]
  simp only [callK_some, idxP_any, any_mx h1]
def pasR (c : Cells) (lv : Int) : Int := if (okCells c && inR lv 1 255) = true then pas lv (mx c.Charge) else -1
theorem pl_i (c : Cells) (lv : Int) : p_impl_ErasePasses c lv = some (pasR c lv) := by
  unfold p_impl_ErasePasses pasR
  rw [pl_iOk, callK_some]
  cases hok : okCells c
  · rfl
  cases hlv : inR lv 1 255
  · rfl
  have hlv := inR_iff.mp hlv
  rw [if_pos rfl, if_pos rfl]
  show _ = some (pas lv (mx c.Charge))
  refine iterK_rule (fun d (x : Int × Cells) => d = (mx x.2.Charge).toNat ∧ okCells x.2 = true ∧ 0 ≤ x.1 ∧ x.1 + pas lv (mx x.2.Charge) = pas lv (mx c.Charge)) ?_ (mx c.Charge).toNat _ (by have := mx_in hok; unfold NN; omega) ⟨rfl, hok, by simp, by simp⟩
  rintro d ⟨v, x⟩ ⟨rfl, hx, hv, hp⟩ nx hnx
  dsimp only at hx hv hp hnx ⊢
  have hm := mx_in hx
  have hm0 := mx_in hok
  have p0 := pas_0 hlv.1 hm.1 hm.2
  have p1 := pas_0 hlv.1 hm0.1 hm0.2
  rw [pl_contains hx hlv.1, callK_some]
  by_cases hc : mx x.Charge ≥ lv
  · have e := ers_ok hx
    rw [decide_eq_true hc, if_pos rfl, pl_erased hx, callK_some, wrap_sm (v + 1) (by omega) (by omega)]
    have ps := pas_s hlv.1 hm.1 hm.2 (by omega)
    exact hnx _ _ (by rw [e.2]; omega) ⟨rfl, e.1, by dsimp only; omega, by dsimp only; rw [e.2]; omega⟩
  · rw [decide_eq_false hc]
    have : pas lv (mx x.Charge) = 0 := p0.1.mpr (by omega)
    simp; omega
theorem pl_s (c : Cells) (lv : Int) : p_spec_ErasePasses c lv = some (pasR c lv) := by
  unfold p_spec_ErasePasses pasR
  rw [pl_sOk, callK_some]
  cases hok : okCells c
  · rfl
  cases hlv : inR lv 1 255
  · rfl
  have hlv := inR_iff.mp hlv
  obtain ⟨hlen, _⟩ := okCells_iff.mp hok
  rw [if_pos rfl, if_pos rfl, grd_pos (by omega)]
  show _ = some (pas lv (mx c.Charge))
  refine Eq.trans (forK_foldl mxS fun i x s nx => ?_) ?_
  · unfold p_spec_l00Max mxS
    split <;> split <;> (simp only [callK_some]; try (congr 1; omega))
  have hm0 := mx_in hok
  refine iterK_rule (fun d (x : Int × Int) => d = x.1.toNat ∧ 0 ≤ x.1 ∧ x.1 ≤ 255 ∧ 0 ≤ x.2 ∧ x.2 + pas lv x.1 = pas lv (mx c.Charge)) ?_ (mx c.Charge).toNat _ (by unfold NN; omega) ⟨rfl, hm0.1, hm0.2, by simp, by dsimp only; unfold mx; omega⟩
  rintro d ⟨h, v⟩ ⟨rfl, h0, h1, hv, hp⟩ nx hnx
  dsimp only at h0 h1 hv hp hnx ⊢
  have p0 := pas_0 hlv.1 h0 h1
  have p1 := pas_0 hlv.1 hm0.1 hm0.2
  split
  · rename_i hc
    have ps := pas_s hlv.1 h0 h1 (by omega)
    rw [Int.tdiv_eq_ediv_of_nonneg h0, wrap_sm (h / 4) (by omega) (by omega), wrap_sm (v + 1) (by omega) (by omega)]
    exact hnx _ _ (by omega) ⟨rfl, by dsimp only; omega, by dsimp only; omega, by dsimp only; omega, by dsimp only; omega⟩
  · rename_i hc
    have : pas lv h = 0 := p0.1.mpr (by omega)
    congr 1; omega
theorem draw_ok {s : Sl00Src} (h : SrcOk 1000 s) : ∃ r, p_spec_l15Cells s = some r ∧ SrcOk 10 r.2 ∧ r.1.Charge.length ≤ 65 := by
  unfold p_spec_l15Cells
  obtain ⟨same, s1, e1, o1⟩ := one_ok (b := 998) 4 (by omega) h
  obtain ⟨k, s2, e2, b2, o2⟩ := pick_ok (b := 996) 10 (by omega) o1
  rw [e1, callK_some, e2, callK_some]
  refine iterK_ex (fun d (x : Bool × Int × Sl00Src × List Int) => d = x.2.1.toNat ∧ 0 ≤ x.2.1 ∧ x.2.1 ≤ 9 ∧ (x.2.2.2.length : Int) ≤ 9 - x.2.1 ∧ SrcOk (30 + 10 * x.2.1) x.2.2.1) ?_ k.toNat _ (by have := b2.2.1 (by omega); unfold NN; omega) ⟨rfl, b2.1, by have := b2.2.1 (by omega); dsimp only; omega, by have := b2.2.1 (by omega); simp; omega, o2.le (by have := b2.2.1 (by omega); dsimp only; omega)⟩
  rintro d ⟨same, k, s, l⟩ ⟨rfl, h0, h8, hl, ho⟩ nx hnx
  dsimp only at h0 h8 hl ho hnx ⊢
  have ap : appOk (l.length + 1) 8 = true := appOk_of _ _ (by omega)
  split
  · rename_i hk
    obtain ⟨a, s3, e3, _, o3⟩ := pick_ok (b := 26 + 10 * k) 256 (by omega) (ho.le (by omega))
    obtain ⟨b, s4, e4, _, o4⟩ := amongO_ok (b := 24 + 10 * k) ([0, 255, 127, 128, 63, a] : List Int) (by simp) (by omega) (o3.le (by omega))
    have hw : IntKind.i64.wrap (k - 1) = k - 1 := wrap_sm _ (by omega) (by omega)
    rw [e3, callK_some]
    dsimp only
    rw [e4, callK_some, hw]
    split <;> (rw [grd_pos ap]; exact hnx (k - 1).toNat _ (by omega) ⟨rfl, by dsimp only; omega, by dsimp only; omega, by simp; omega, o4.le (by dsimp only; omega)⟩)
  · rename_i hk
    have mk : ∀ q : Int, 0 ≤ q → q < 2 → IntKind.i64.wrap (64 + q) = 64 + q ∧ mkOk (64 + q) (64 + q) 8 1 = true ∧ (List.replicate (Int.toNat (64 + q)) (0 : Int)).length ≤ 65 := fun q q0 q1 => by
      refine ⟨wrap_sm _ (by omega) (by omega), ?_, by rw [List.length_replicate]; omega⟩
      have := mkOk_nat (64 + q).toNat 8 1 (by omega) rfl rfl
      rwa [show (((64 + q).toNat : Nat) : Int) = 64 + q by omega] at this
    have fin : ∀ (l : List Int) (s : Sl00Src), l.length ≤ 65 → SrcOk 24 s → ∃ r, (callK (p_spec_l00Src_one 30 s) fun y => if y.1 = true then callK (p_spec_l00Src_pick 2 y.2) fun z => grd (mkOk (IntKind.i64.wrap (64 + z.1)) (IntKind.i64.wrap (64 + z.1)) 8 1 = true) <| some ((⟨List.replicate (Int.toNat (IntKind.i64.wrap (64 + z.1))) 0⟩ : Cells), z.2) else some ((⟨l⟩ : Cells), y.2)) = some r ∧ SrcOk 10 r.2 ∧ r.1.Charge.length ≤ 65 := by
      intro l s hl hs
      obtain ⟨c, s1, e1, o1⟩ := one_ok (b := 22) 30 (by omega) hs
      obtain ⟨q, s2, e2, b2, o2⟩ := pick_ok (b := 20) 2 (by omega) o1
      obtain ⟨m1, m2, m3⟩ := mk q b2.1 (b2.2.1 (by omega))
      rw [e1, callK_some]
      dsimp only
      split
      · rw [e2, callK_some]
        dsimp only
        rw [m1, grd_pos m2]
        exact ⟨_, rfl, o2.le (by omega), m3⟩
      · exact ⟨_, rfl, o1.le (by omega), hl⟩
    obtain ⟨a, s3, e3, o3⟩ := one_ok (b := 28) 12 (by omega) (ho.le (by omega))
    rw [e3, callK_some]
    dsimp only
    split
    · obtain ⟨b, s4, e4, _, o4⟩ := amongO_ok (b := 26) ([(-1), 256, 1099511627776] : List Int) (by decide) (by omega) (o3.le (by omega))
      rw [e4, callK_some, grd_pos ap]
      exact fin _ _ (by simp; omega) (o4.le (by omega))
    · exact fin _ _ (by omega) (o3.le (by omega))
theorem pl_law (code : List Int) (hk : okL u8r code) : p_laws_FnErasePasses code = some true := by
  unfold p_laws_FnErasePasses
  by_cases hl : (code.length : Int) > 400
  · rw [if_pos hl]
  rw [if_neg hl]
  obtain ⟨s0, e0, o0⟩ := from_ok hk.2 (by omega)
  obtain ⟨⟨c, s1⟩, e1, o1, hlen⟩ := draw_ok (o0.le (by omega))
  obtain ⟨lv, s2, e2, _, o2⟩ := amongO_ok (b := 8) ([0, 1, 2, 16, 63, 64, 128, 255, 256] : List Int) (by decide) (by omega) o1
  have hd : p_spec_DrawErasePasses code = some (c, lv) := by
    unfold p_spec_DrawErasePasses
    rw [e0, callK_some, e1, callK_some]
    dsimp only
    rw [e2]; rfl
  rw [hd, callK_some]
  dsimp only
  rw [pl_i, callK_some, pl_s, callK_some, if_neg (by simp)]
  unfold pasR
  by_cases hv : (okCells c && inR lv 1 255) = true
  · rw [if_pos hv]
    rw [Bool.and_eq_true] at hv
    obtain ⟨hok, hlv⟩ := hv
    have hlv := inR_iff.mp hlv
    have hm := mx_in hok
    have p0 := pas_0 hlv.1 hm.1 hm.2
    rw [grd_pos (by omega)]
    refine forI_rule (fun i x => okCells x = true ∧ (i : Int) + pas lv (mx x.Charge) = pas lv (mx c.Charge)) (fun i hi x hx nx hnx => ?_) (fun x hx => ?_) _ ⟨hok, by simp⟩
    · obtain ⟨hx1, hx2⟩ := hx
      obtain ⟨hl1, _⟩ := okCells_iff.mp hx1
      have hm1 := mx_in hx1
      have q0 := pas_0 hlv.1 hm1.1 hm1.2
      rw [grd_pos (by omega)]
      refine Eq.trans (forK_foldl mxS fun i x s nx => ?_) ?_
      · rfl
      have hge : ¬ mx x.Charge < lv := fun h => by have := q0.1.mpr h; omega
      have e := ers_ok hx1
      rw [if_neg (show ¬ x.Charge.foldl mxS 0 < lv from hge)]
      unfold p_impl_EraseCells
      rw [pl_iOk, callK_some, hx1, if_pos rfl, pl_erased hx1, callK_some, callK_some]
      have ps := pas_s hlv.1 hm1.1 hm1.2 hge
      exact hnx _ ⟨e.1, by rw [e.2]; omega⟩
    · obtain ⟨hx1, hx2⟩ := hx
      obtain ⟨hl1, _⟩ := okCells_iff.mp hx1
      have hm1 := mx_in hx1
      have q0 := pas_0 hlv.1 hm1.1 hm1.2
      have hlt := q0.1.mp (by omega)
      rw [grd_pos (by omega)]
      refine forK_rule (fun _ _ => True) (fun i hi s _ nx hnx => ?_) (fun _ _ => rfl) () trivial
      have := (mx_go x.Charge 0).2.1 _ (List.getElem_mem hi)
      rw [if_pos (by omega), if_neg (by unfold mx at hlt; omega)]
      exact hnx _ trivial
  · rw [if_neg hv, grd_pos (by omega)]
    refine forI_rule (fun i x => x = c) (fun i hi x hx nx hnx => by omega) (fun x hx => ?_) _ rfl
    subst hx
    dsimp only at hlen
    rw [grd_pos (by omega)]
    refine forK_rule (fun _ _ => True) (fun i hi s _ nx hnx => ?_) (fun _ _ => rfl) () trivial
    rw [if_neg (by omega)]
theorem f_law (code : List Int) (hk : okL u8r code) : callL E 3 [.d (.arr (code.map rU))] [] = some (BO true, []) := L_laws_FnErasePasses code (pl_law code hk)

end Go.Proofs.Ytjbddmmammgmjaa.T12

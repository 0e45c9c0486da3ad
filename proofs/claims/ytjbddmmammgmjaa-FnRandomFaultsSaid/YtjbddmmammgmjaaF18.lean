/- FnRandomFaults: what its functions come to, and the row; conditions: none. -/
import Derived.Test.YtjbddmmammgmjaaT18
import Derived.Test.YtjbddmmammgmjaaEz
import Derived.Test.YtjbddmmammgmjaaRows
import Derived.WalkKit
import Derived.ProofKit
import Derived.OpenShut
import Derived.ShutString
import Derived.ChangeOld
import Derived.Below
import Derived.SizedLaws
namespace Go.Proofs.Ytjbddmmammgmjaa.T18
open Go.Proofs.YtjbddmmammgmjaaE
set_option maxRecDepth 100000
set_option linter.unusedVariables false
set_option linter.unusedSimpArgs false

noncomputable def p_spec_l00In (a_0 : Int) (a_1 : Int) (a_2 : Int) : Option Bool :=
  if a_0 ≥ a_1 then
    some (decide (a_0 ≤ a_2))
  else
    some false

theorem L_spec_l00In (a_0 : Int) (a_1 : Int) (a_2 : Int) {r : Bool} (h : p_spec_l00In a_0 a_1 a_2 = some r) : callL E 112 [IN a_0, IN a_1, IN a_2] ([] : Fo) = some (BO r, ([] : Fo)) := by
  unfold p_spec_l00In at h
  refine callW (fu := Try.f112) rfl rfl rfl NN ?_
  intro lp cl hlp hcl
  conv => lhs; whnf
  cases hb1 : (decide (a_0 ≥ a_1))
  · replace h := ifF h (decF hb1)
    conv => lhs; whnf
    try (rw [hb1]; conv => lhs; whnf)
    try (rw [hb1]; conv => lhs; whnf)
    try (rw [hb1]; conv => lhs; whnf)
    obtain rfl := Option.some.inj h
    show _ = _
    kernel_rfl
  · replace h := ifT h (decT hb1)
    conv => lhs; whnf
    try (rw [hb1]; conv => lhs; whnf)
    try (rw [hb1]; conv => lhs; whnf)
    try (rw [hb1]; conv => lhs; whnf)
    obtain rfl := Option.some.inj h
    show _ = _
    kernel_rfl
theorem pl_l00In (n lo hi : Int) : p_spec_l00In n lo hi = some (inR n lo hi) := by
  unfold p_spec_l00In inR
  split
  · rename_i h; simp [h]
  · rename_i h; simp [h]


noncomputable def p_impl_within (a_0 : Int) (a_1 : Int) (a_2 : Int) : Option Bool :=
  if a_0 ≥ a_1 then
    some (decide (a_0 ≤ a_2))
  else
    some false

theorem L_impl_within (a_0 : Int) (a_1 : Int) (a_2 : Int) {r : Bool} (h : p_impl_within a_0 a_1 a_2 = some r) : callL E 107 [IN a_0, IN a_1, IN a_2] ([] : Fo) = some (BO r, ([] : Fo)) := by
  unfold p_impl_within at h
  refine callW (fu := Try.f107) rfl rfl rfl NN ?_
  intro lp cl hlp hcl
  conv => lhs; whnf
  cases hb1 : (decide (a_0 ≥ a_1))
  · replace h := ifF h (decF hb1)
    conv => lhs; whnf
    try (rw [hb1]; conv => lhs; whnf)
    try (rw [hb1]; conv => lhs; whnf)
    try (rw [hb1]; conv => lhs; whnf)
    obtain rfl := Option.some.inj h
    show _ = _
    kernel_rfl
  · replace h := ifT h (decT hb1)
    conv => lhs; whnf
    try (rw [hb1]; conv => lhs; whnf)
    try (rw [hb1]; conv => lhs; whnf)
    try (rw [hb1]; conv => lhs; whnf)
    obtain rfl := Option.some.inj h
    show _ = _
    kernel_rfl
theorem pl_within (n lo hi : Int) : p_impl_within n lo hi = some (inR n lo hi) := by
  unfold p_impl_within inR
  split
  · rename_i h; simp [h]
  · rename_i h; simp [h]



structure Sl00Src where
  Code : List Int
  At : Int
  Seed : Int
def rSl00Src (x : Sl00Src) : List D := [.arr (x.Code.map rU), dI x.At, .lit (.int .u64 x.Seed)]

noncomputable def p_spec_l00From (a_0 : List Int) : Option Sl00Src :=
  some (⟨a_0, 0, 0⟩ : Sl00Src)

theorem L_spec_l00From (a_0 : List Int) {r : Sl00Src} (h : p_spec_l00From a_0 = some r) : callL E 103 [.d (.arr (a_0.map rU))] ([] : Fo) = some (.bp 0 0, ([some (.box [.d (.arr (r.Code.map rU)), IN r.At, .d (.lit (.int .u64 r.Seed))])] : Fo)) := by
  unfold p_spec_l00From at h
  refine callW (fu := Try.f103) rfl rfl rfl NN ?_
  intro lp cl hlp hcl
  conv => lhs; whnf
  obtain rfl := Option.some.inj h
  show _ = _
  kernel_rfl

noncomputable def p_spec_l00Src_next (a_0 : Sl00Src) : Option (Int × Sl00Src) :=
  if a_0.At < (a_0.Code.length : Int) then
    getK a_0.Code a_0.At fun x2 =>
    if (IntKind.i64.wrap (a_0.At + 1)) ≤ (a_0.Code.length : Int) then
      some ((IntKind.i64.wrap x2), (⟨a_0.Code, (IntKind.i64.wrap (a_0.At + 1)), (IntKind.u64.wrap ((IntKind.u64.wrap ((IntKind.u64.wrap (a_0.Seed * 6364136223846793005)) + (IntKind.u64.wrap (IntKind.i64.wrap x2)))) + 1442695040888963407))⟩ : Sl00Src))
    else
      some ((IntKind.i64.wrap (andK .u64 (Int.fdiv (IntKind.u64.wrap ((IntKind.u64.wrap ((IntKind.u64.wrap (a_0.Seed * 6364136223846793005)) + (IntKind.u64.wrap (IntKind.i64.wrap x2)))) + 1442695040888963407)) (2 ^ (min (Int.toNat 40) IntKind.u64.bits))) 255)), (⟨a_0.Code, (IntKind.i64.wrap (a_0.At + 1)), (IntKind.u64.wrap ((IntKind.u64.wrap ((IntKind.u64.wrap (a_0.Seed * 6364136223846793005)) + (IntKind.u64.wrap (IntKind.i64.wrap x2)))) + 1442695040888963407))⟩ : Sl00Src))
  else
    if (IntKind.i64.wrap (a_0.At + 1)) ≤ (a_0.Code.length : Int) then
      some (0, (⟨a_0.Code, (IntKind.i64.wrap (a_0.At + 1)), (IntKind.u64.wrap ((IntKind.u64.wrap ((IntKind.u64.wrap (a_0.Seed * 6364136223846793005)) + (IntKind.u64.wrap 0))) + 1442695040888963407))⟩ : Sl00Src))
    else
      some ((IntKind.i64.wrap (andK .u64 (Int.fdiv (IntKind.u64.wrap ((IntKind.u64.wrap ((IntKind.u64.wrap (a_0.Seed * 6364136223846793005)) + (IntKind.u64.wrap 0))) + 1442695040888963407)) (2 ^ (min (Int.toNat 40) IntKind.u64.bits))) 255)), (⟨a_0.Code, (IntKind.i64.wrap (a_0.At + 1)), (IntKind.u64.wrap ((IntKind.u64.wrap ((IntKind.u64.wrap (a_0.Seed * 6364136223846793005)) + (IntKind.u64.wrap 0))) + 1442695040888963407))⟩ : Sl00Src))

theorem L_spec_l00Src_next (a_0 : Sl00Src) {r : (Int × Sl00Src)} (h : p_spec_l00Src_next a_0 = some r) : callL E 217 [.bp 0 0] ([some (.box [.d (.arr (a_0.Code.map rU)), IN a_0.At, .d (.lit (.int .u64 a_0.Seed))])] : Fo) = some (IN r.1, ([some (.box [.d (.arr (r.2.Code.map rU)), IN r.2.At, .d (.lit (.int .u64 r.2.Seed))])] : Fo)) := by
  unfold p_spec_l00Src_next at h
  refine callW (fu := Try.f217) rfl rfl rfl NN ?_
  intro lp cl hlp hcl
  conv => lhs; whnf
  try rw [len_of (l := a_0.Code) (r := rU)]
  cases hb1 : (decide (a_0.At < (a_0.Code.length : Int)))
  · replace h := ifF h (decF hb1)
    conv => lhs; whnf
    try rw [len_of (l := a_0.Code) (r := rU)]
    cases hb4 : (decide ((IntKind.i64.wrap (a_0.At + 1)) ≤ (a_0.Code.length : Int)))
    · replace h := ifF h (decF hb4)
      conv => lhs; whnf
      obtain rfl := Option.some.inj h
      show _ = _
      kernel_rfl
    · replace h := ifT h (decT hb4)
      conv => lhs; whnf
      obtain rfl := Option.some.inj h
      show _ = _
      kernel_rfl
  · replace h := ifT h (decT hb1)
    conv => lhs; whnf
    obtain ⟨x2, hq_x2, hx_x2', h⟩ := getK_inv h
    have hx_x2 := get_of (r := rU) hx_x2'
    try (rw [decide_eq_true hq_x2]; conv => lhs; whnf)
    rw [hx_x2]
    conv => lhs; whnf
    rw [hx_x2]
    conv => lhs; whnf
    try rw [len_of (l := a_0.Code) (r := rU)]
    cases hb3 : (decide ((IntKind.i64.wrap (a_0.At + 1)) ≤ (a_0.Code.length : Int)))
    · replace h := ifF h (decF hb3)
      conv => lhs; whnf
      obtain rfl := Option.some.inj h
      show _ = _
      kernel_rfl
    · replace h := ifT h (decT hb3)
      conv => lhs; whnf
      obtain rfl := Option.some.inj h
      show _ = _
      kernel_rfl

noncomputable def p_spec_l00Src_pick (a_0 : Int) (a_1 : Sl00Src) : Option (Int × Sl00Src) :=
  if a_0 ≤ 1 then
    some (0, a_1)
  else
    callK (p_spec_l00Src_next a_1) fun y2 =>
    if a_0 > 200 then
      callK (p_spec_l00Src_next y2.2) fun y4 =>
      grd (a_0 ≠ 0) <|
      some ((Int.tmod (IntKind.i64.wrap ((IntKind.i64.wrap (y2.1 * 256)) + y4.1)) a_0), y4.2)
    else
      grd (a_0 ≠ 0) <|
      some ((Int.tmod y2.1 a_0), y2.2)

theorem L_spec_l00Src_pick (a_0 : Int) (a_1 : Sl00Src) {r : (Int × Sl00Src)} (h : p_spec_l00Src_pick a_0 a_1 = some r) : callL E 122 [.bp 0 0, IN a_0] ([some (.box [.d (.arr (a_1.Code.map rU)), IN a_1.At, .d (.lit (.int .u64 a_1.Seed))])] : Fo) = some (IN r.1, ([some (.box [.d (.arr (r.2.Code.map rU)), IN r.2.At, .d (.lit (.int .u64 r.2.Seed))])] : Fo)) := by
  unfold p_spec_l00Src_pick at h
  refine callW (fu := Try.f122) rfl rfl rfl NN ?_
  intro lp cl hlp hcl
  conv => lhs; whnf
  cases hb1 : (decide (a_0 ≤ 1))
  · replace h := ifF h (decF hb1)
    conv => lhs; whnf
    obtain ⟨y2, h_y2, h⟩ := callK_inv h
    rw [cl_eq hcl (L_spec_l00Src_next a_1 h_y2)]
    rotate_left
    · show _ = _
      kernel_rfl
    · show _ = _
      kernel_rfl
    conv => lhs; whnf
    cases hb3 : (decide (a_0 > 200))
    · replace h := ifF h (decF hb3)
      conv => lhs; whnf
      obtain ⟨hg5, h⟩ := grd_inv h
      rw [rem_run _ _ _ _ hg5]
      conv => lhs; whnf
      obtain rfl := Option.some.inj h
      show _ = _
      kernel_rfl
    · replace h := ifT h (decT hb3)
      conv => lhs; whnf
      obtain ⟨y4, h_y4, h⟩ := callK_inv h
      rw [cl_eq hcl (L_spec_l00Src_next y2.2 h_y4)]
      rotate_left
      · show _ = _
        kernel_rfl
      · show _ = _
        kernel_rfl
      conv => lhs; whnf
      obtain ⟨hg6, h⟩ := grd_inv h
      rw [rem_run _ _ _ _ hg6]
      conv => lhs; whnf
      obtain rfl := Option.some.inj h
      show _ = _
      kernel_rfl
  · replace h := ifT h (decT hb1)
    conv => lhs; whnf
    obtain rfl := Option.some.inj h
    show _ = _
    kernel_rfl
/-- A source of choices from which as many may still be drawn. -/
structure SrcOk (b : Int) (s : Sl00Src) : Prop where
  code : ∀ x ∈ s.Code, 0 ≤ x ∧ x ≤ 255
  len : s.Code.length ≤ 1048576
  lo : 0 ≤ s.At
  hi : s.At + b ≤ 4611686018427387904
theorem SrcOk.le {b c : Int} {s : Sl00Src} (h : SrcOk b s) (hc : c ≤ b) : SrcOk c s := ⟨h.1, h.2, h.3, by have := h.4; omega⟩
theorem nxV_in (sd : Int) : 0 ≤ IntKind.i64.wrap (andK .u64 sd 255) ∧ IntKind.i64.wrap (andK .u64 sd 255) ≤ 255 := by
  unfold andK
  generalize BitVec.ofInt IntKind.u64.bits sd = a
  have h1 : (a &&& BitVec.ofInt IntKind.u64.bits 255).toNat ≤ 255 := by
    rw [BitVec.toNat_and]
    exact Nat.le_trans Nat.and_le_right (by decide)
  generalize (a &&& BitVec.ofInt IntKind.u64.bits 255).toNat = m at h1
  have e1 : IntKind.u64.wrap (m : Int) = m := by unfold IntKind.wrap; simp [IntKind.signed, IntKind.bits]; omega
  rw [e1, wrap_sm _ (by omega) (by omega)]
  omega
theorem next_ok {b : Int} {s : Sl00Src} (hb : 0 ≤ b) (h : SrcOk (b + 1) s) : ∃ v s', p_spec_l00Src_next s = some (v, s') ∧ (0 ≤ v ∧ v ≤ 255) ∧ SrcOk b s' := by
  obtain ⟨h1, h2, h3, h4⟩ := h
  have hw : IntKind.i64.wrap (s.At + 1) = s.At + 1 := wrap_sm _ (by omega) (by omega)
  unfold p_spec_l00Src_next
  rw [hw]
  split
  · rename_i hlt
    rw [getK_in h3 hlt]
    have hb := h1 _ (List.getElem_mem (show s.At.toNat < s.Code.length by omega))
    rw [if_pos (by omega)]
    exact ⟨_, _, rfl, by rw [wrap_sm _ (by omega) (by omega)]; exact hb, h1, h2, by show 0 ≤ s.At + 1; omega, by show s.At + 1 + b ≤ _; omega⟩
  · rename_i hlt
    rw [if_neg (by omega)]
    exact ⟨_, _, rfl, nxV_in _, h1, h2, by show 0 ≤ s.At + 1; omega, by show s.At + 1 + b ≤ _; omega⟩
theorem pick_ok {b : Int} {s : Sl00Src} (m : Int) (hb : 0 ≤ b) (h : SrcOk (b + 2) s) : ∃ r s', p_spec_l00Src_pick m s = some (r, s') ∧ (0 ≤ r ∧ (1 < m → r < m) ∧ (m ≤ 1 → r = 0)) ∧ SrcOk b s' := by
  unfold p_spec_l00Src_pick
  split
  · rename_i hm
    exact ⟨0, s, rfl, ⟨by omega, fun h => by omega, fun _ => rfl⟩, h.le (by omega)⟩
  · rename_i hm
    obtain ⟨v1, s1, e1, b1, o1⟩ := next_ok (b := b + 1) (by omega) (h.le (by omega))
    rw [e1, callK_some]
    split
    · obtain ⟨v2, s2, e2, b2, o2⟩ := next_ok hb o1
      rw [e2, callK_some, grd_pos (by omega)]
      have w1 : IntKind.i64.wrap (v1 * 256) = v1 * 256 := wrap_sm _ (by omega) (by omega)
      have w2 : IntKind.i64.wrap (v1 * 256 + v2) = v1 * 256 + v2 := wrap_sm _ (by omega) (by omega)
      refine ⟨_, _, rfl, ?_, o2⟩
      show 0 ≤ Int.tmod (IntKind.i64.wrap (IntKind.i64.wrap (v1 * 256) + v2)) m ∧ _
      rw [w1, w2]
      exact ⟨Int.tmod_nonneg _ (by omega), fun _ => Int.tmod_lt_of_pos _ (by omega), fun h3 => by omega⟩
    · rw [grd_pos (by omega)]
      exact ⟨_, _, rfl, ⟨Int.tmod_nonneg _ b1.1, fun _ => Int.tmod_lt_of_pos _ (by omega), fun h3 => by omega⟩, o1.le (by omega)⟩
theorem from_ok {code : List Int} (h : ∀ x ∈ code, 0 ≤ x ∧ x ≤ 255) (hl : code.length ≤ 1048576) : ∃ s, p_spec_l00From code = some s ∧ SrcOk 1099511627776 s :=
  ⟨_, rfl, h, hl, by show (0 : Int) ≤ 0; omega, by show (0 : Int) + 1099511627776 ≤ _; omega⟩

noncomputable def p_spec_l00Src_among (a_0 : List Int) (a_1 : Sl00Src) : Option (Int × Sl00Src) :=
  callK (p_spec_l00Src_pick (a_0.length : Int) a_1) fun y1 =>
  getK a_0 y1.1 fun x2 =>
  some (x2, y1.2)

theorem L_spec_l00Src_among (a_0 : List Int) (a_1 : Sl00Src) {r : (Int × Sl00Src)} (h : p_spec_l00Src_among a_0 a_1 = some r) : callL E 105 [.bp 0 0, .d (.arr (a_0.map rI))] ([some (.box [.d (.arr (a_1.Code.map rU)), IN a_1.At, .d (.lit (.int .u64 a_1.Seed))])] : Fo) = some (IN r.1, ([some (.box [.d (.arr (r.2.Code.map rU)), IN r.2.At, .d (.lit (.int .u64 r.2.Seed))])] : Fo)) := by
  unfold p_spec_l00Src_among at h
  refine callW (fu := Try.f105) rfl rfl rfl NN ?_
  intro lp cl hlp hcl
  conv => lhs; whnf
  try rw [len_of (l := a_0) (r := rI)]
  obtain ⟨y1, h_y1, h⟩ := callK_inv h
  rw [cl_eq hcl (L_spec_l00Src_pick (a_0.length : Int) a_1 h_y1)]
  rotate_left
  · show _ = _
    kernel_rfl
  · show _ = _
    kernel_rfl
  conv => lhs; whnf
  obtain ⟨x2, hq_x2, hx_x2', h⟩ := getK_inv h
  have hx_x2 := get_of (r := rI) hx_x2'
  try (rw [decide_eq_true hq_x2]; conv => lhs; whnf)
  rw [hx_x2]
  conv => lhs; whnf
  rw [hx_x2]
  conv => lhs; whnf
  obtain rfl := Option.some.inj h
  show _ = _
  kernel_rfl
theorem among_ok {b : Int} {s : Sl00Src} (l : List Int) (hl : 0 < l.length) (hb : 0 ≤ b) (h : SrcOk (b + 2) s) : ∃ r s', p_spec_l00Src_among l s = some (r, s') ∧ r ∈ l ∧ SrcOk b s' := by
  obtain ⟨r, s1, e1, ⟨b1, b2, b3⟩, o1⟩ := pick_ok (l.length : Int) hb h
  unfold p_spec_l00Src_among
  have hr : r < (l.length : Int) := by
    rcases Nat.lt_or_ge 1 l.length with h | h
    · exact b2 (by omega)
    · have := b3 (by omega); omega
  rw [e1, callK_some, getK_in b1 hr]
  exact ⟨_, _, rfl, List.getElem_mem _, o1⟩

noncomputable def p_spec_l00Src_one (a_0 : Int) (a_1 : Sl00Src) : Option (Bool × Sl00Src) :=
  callK (p_spec_l00Src_pick a_0 a_1) fun y1 =>
  some ((y1.1 == 0), y1.2)

theorem L_spec_l00Src_one (a_0 : Int) (a_1 : Sl00Src) {r : (Bool × Sl00Src)} (h : p_spec_l00Src_one a_0 a_1 = some r) : callL E 130 [.bp 0 0, IN a_0] ([some (.box [.d (.arr (a_1.Code.map rU)), IN a_1.At, .d (.lit (.int .u64 a_1.Seed))])] : Fo) = some (BO r.1, ([some (.box [.d (.arr (r.2.Code.map rU)), IN r.2.At, .d (.lit (.int .u64 r.2.Seed))])] : Fo)) := by
  unfold p_spec_l00Src_one at h
  refine callW (fu := Try.f130) rfl rfl rfl NN ?_
  intro lp cl hlp hcl
  conv => lhs; whnf
  obtain ⟨y1, h_y1, h⟩ := callK_inv h
  rw [cl_eq hcl (L_spec_l00Src_pick a_0 a_1 h_y1)]
  rotate_left
  · show _ = _
    kernel_rfl
  · show _ = _
    kernel_rfl
  conv => lhs; whnf
  obtain rfl := Option.some.inj h
  show _ = _
  kernel_rfl
theorem one_ok {b : Int} {s : Sl00Src} (m : Int) (hb : 0 ≤ b) (h : SrcOk (b + 2) s) : ∃ r s', p_spec_l00Src_one m s = some (r, s') ∧ SrcOk b s' := by
  obtain ⟨r, s1, e1, _, o1⟩ := pick_ok m hb h
  unfold p_spec_l00Src_one
  rw [e1, callK_some]
  exact ⟨_, _, rfl, o1⟩

noncomputable def p_spec_l00Src_among' (a_0 : Sl00Src) (a_1 : List Int) : Option (Int × Sl00Src) :=
  callK (p_spec_l00Src_pick (a_1.length : Int) a_0) fun y1 =>
  getK a_1 y1.1 fun x2 =>
  some (x2, y1.2)

theorem L_spec_l00Src_among' (a_0 : Sl00Src) (a_1 : List Int) {r : (Int × Sl00Src)} (h : p_spec_l00Src_among' a_0 a_1 = some r) : callL E 105 [.bp 0 0, .sl 1] ([some (.box [.d (.arr (a_0.Code.map rU)), IN a_0.At, .d (.lit (.int .u64 a_0.Seed))]), some (.arr 2 1 (a_1.map rI))] : Fo) = some (IN r.1, ([some (.box [.d (.arr (r.2.Code.map rU)), IN r.2.At, .d (.lit (.int .u64 r.2.Seed))]), some (.arr 2 1 (a_1.map rI))] : Fo)) := by
  unfold p_spec_l00Src_among' at h
  refine callW (fu := Try.f105) rfl rfl rfl NN ?_
  intro lp cl hlp hcl
  conv => lhs; whnf
  try rw [len_of (l := a_1) (r := rI)]
  obtain ⟨y1, h_y1, h⟩ := callK_inv h
  rw [cl_eq hcl (L_spec_l00Src_pick (a_1.length : Int) a_0 h_y1)]
  rotate_left
  · show _ = _
    kernel_rfl
  · show _ = _
    kernel_rfl
  conv => lhs; whnf
  obtain ⟨x2, hq_x2, hx_x2', h⟩ := getK_inv h
  have hx_x2 := get_of (r := rI) hx_x2'
  try (rw [decide_eq_true hq_x2]; conv => lhs; whnf)
  rw [hx_x2]
  conv => lhs; whnf
  rw [hx_x2]
  conv => lhs; whnf
  obtain rfl := Option.some.inj h
  show _ = _
  kernel_rfl

noncomputable def p_spec_l07Geo (a_0 : Sl00Src) : Option (Geometry × Sl00Src) :=
  callK (p_spec_l00Src_pick 2 a_0) fun y1 =>
  callK (p_spec_l00Src_pick 4 y1.2) fun y2 =>
  callK (p_spec_l00Src_one 20 y2.2) fun y3 =>
  if y3.1 = true then
    callK (p_spec_l00Src_among' y3.2 ([0, 12, 16] : List Int)) fun y5 =>
    some ((⟨(IntKind.i64.wrap (2 + y1.1)), (IntKind.i64.wrap (4 + y2.1)), y5.1⟩ : Geometry), y5.2)
  else
    some ((⟨(IntKind.i64.wrap (2 + y1.1)), (IntKind.i64.wrap (4 + y2.1)), 8⟩ : Geometry), y3.2)

theorem L_spec_l07Geo (a_0 : Sl00Src) {r : (Geometry × Sl00Src)} (h : p_spec_l07Geo a_0 = some r) : callL E 169 [.bp 0 0] ([some (.box [.d (.arr (a_0.Code.map rU)), IN a_0.At, .d (.lit (.int .u64 a_0.Seed))])] : Fo) = some (.agg [IN r.1.Dies, IN r.1.Blocks, IN r.1.Pages], ([some (.box [.d (.arr (r.2.Code.map rU)), IN r.2.At, .d (.lit (.int .u64 r.2.Seed))])] : Fo)) := by
  unfold p_spec_l07Geo at h
  refine callW (fu := Try.f169) rfl rfl rfl NN ?_
  intro lp cl hlp hcl
  conv => lhs; whnf
  obtain ⟨y1, h_y1, h⟩ := callK_inv h
  rw [cl_eq hcl (L_spec_l00Src_pick 2 a_0 h_y1)]
  rotate_left
  · show _ = _
    kernel_rfl
  · show _ = _
    kernel_rfl
  conv => lhs; whnf
  obtain ⟨y2, h_y2, h⟩ := callK_inv h
  rw [cl_eq hcl (L_spec_l00Src_pick 4 y1.2 h_y2)]
  rotate_left
  · show _ = _
    kernel_rfl
  · show _ = _
    kernel_rfl
  conv => lhs; whnf
  obtain ⟨y3, h_y3, h⟩ := callK_inv h
  rw [cl_eq hcl (L_spec_l00Src_one 20 y2.2 h_y3)]
  rotate_left
  · show _ = _
    kernel_rfl
  · show _ = _
    kernel_rfl
  conv => lhs; whnf
  cases hb4 : y3.1
  · replace h := ifF h (booF hb4)
    conv => lhs; whnf
    obtain rfl := Option.some.inj h
    show _ = _
    kernel_rfl
  · replace h := ifT h hb4
    conv => lhs; whnf
    obtain ⟨y5, h_y5, h⟩ := callK_inv h
    rw [cl_eq hcl (L_spec_l00Src_among' y3.2 ([0, 12, 16] : List Int) h_y5)]
    rotate_left
    · show _ = _
      kernel_rfl
    · show _ = _
      kernel_rfl
    conv => lhs; whnf
    obtain rfl := Option.some.inj h
    show _ = _
    kernel_rfl

noncomputable def p_spec_DrawRandomFaults (a_0 : List Int) : Option (Geometry × Int × Int) :=
  callK (p_spec_l00From a_0) fun y1 =>
  callK (p_spec_l07Geo y1) fun y2 =>
  callK (p_spec_l00Src_pick 1000 y2.2) fun y3 =>
  callK (p_spec_l00Src_one 4 y3.2) fun y4 =>
  if y4.1 = true then
    callK (p_spec_l00Src_among' y4.2 ([(-1), 4611686018427387904, (-9223372036854775808), 999999936, 999999937] : List Int)) fun y6 =>
    callK (p_spec_l00Src_among' y6.2 ([0, 1, 5, 40, 41, (-1)] : List Int)) fun y7 =>
    some (y2.1, y6.1, y7.1)
  else
    callK (p_spec_l00Src_among' y4.2 ([0, 1, 5, 40, 41, (-1)] : List Int)) fun y8 =>
    some (y2.1, y3.1, y8.1)

theorem L_spec_DrawRandomFaults (a_0 : List Int) {r : (Geometry × Int × Int)} (h : p_spec_DrawRandomFaults a_0 = some r) : callL E 66 [.d (.arr (a_0.map rU))] ([] : Fo) = some (.tup [.agg [IN r.1.Dies, IN r.1.Blocks, IN r.1.Pages], IN r.2.1, IN r.2.2], ([] : Fo)) := by
  unfold p_spec_DrawRandomFaults at h
  refine callW (fu := Try.f66) rfl rfl rfl NN ?_
  intro lp cl hlp hcl
  conv => lhs; whnf
  obtain ⟨y1, h_y1, h⟩ := callK_inv h
  rw [cl_eq hcl (L_spec_l00From a_0 h_y1)]
  rotate_left
  · show _ = _
    kernel_rfl
  · show _ = _
    kernel_rfl
  conv => lhs; whnf
  obtain ⟨y2, h_y2, h⟩ := callK_inv h
  rw [cl_eq hcl (L_spec_l07Geo y1 h_y2)]
  rotate_left
  · show _ = _
    kernel_rfl
  · show _ = _
    kernel_rfl
  conv => lhs; whnf
  obtain ⟨y3, h_y3, h⟩ := callK_inv h
  rw [cl_eq hcl (L_spec_l00Src_pick 1000 y2.2 h_y3)]
  rotate_left
  · show _ = _
    kernel_rfl
  · show _ = _
    kernel_rfl
  conv => lhs; whnf
  obtain ⟨y4, h_y4, h⟩ := callK_inv h
  rw [cl_eq hcl (L_spec_l00Src_one 4 y3.2 h_y4)]
  rotate_left
  · show _ = _
    kernel_rfl
  · show _ = _
    kernel_rfl
  conv => lhs; whnf
  cases hb5 : y4.1
  · replace h := ifF h (booF hb5)
    conv => lhs; whnf
    obtain ⟨y8, h_y8, h⟩ := callK_inv h
    rw [cl_eq hcl (L_spec_l00Src_among' y4.2 ([0, 1, 5, 40, 41, (-1)] : List Int) h_y8)]
    rotate_left
    · show _ = _
      kernel_rfl
    · show _ = _
      kernel_rfl
    conv => lhs; whnf
    obtain rfl := Option.some.inj h
    show _ = _
    kernel_rfl
  · replace h := ifT h hb5
    conv => lhs; whnf
    obtain ⟨y6, h_y6, h⟩ := callK_inv h
    rw [cl_eq hcl (L_spec_l00Src_among' y4.2 ([(-1), 4611686018427387904, (-9223372036854775808), 999999936, 999999937] : List Int) h_y6)]
    rotate_left
    · show _ = _
      kernel_rfl
    · show _ = _
      kernel_rfl
    conv => lhs; whnf
    obtain ⟨y7, h_y7, h⟩ := callK_inv h
    rw [cl_eq hcl (L_spec_l00Src_among' y6.2 ([0, 1, 5, 40, 41, (-1)] : List Int) h_y7)]
    rotate_left
    · show _ = _
      kernel_rfl
    · show _ = _
      kernel_rfl
    conv => lhs; whnf
    obtain rfl := Option.some.inj h
    show _ = _
    kernel_rfl

noncomputable def p_impl_ValidGeometry (a_0 : Geometry) : Option Bool :=
  if (inR a_0.Dies 2 3) = true then
    if (inR a_0.Blocks 4 12) = true then
      if a_0.Pages = 8 then
        some true
      else
        some (a_0.Pages == 16)
    else
      some false
  else
    some false

theorem L_impl_ValidGeometry (a_0 : Geometry) {r : Bool} (h : p_impl_ValidGeometry a_0 = some r) : callL E 170 [.agg [IN a_0.Dies, IN a_0.Blocks, IN a_0.Pages]] ([] : Fo) = some (BO r, ([] : Fo)) := by
  unfold p_impl_ValidGeometry at h
  refine callW (fu := Try.f170) rfl rfl rfl NN ?_
  intro lp cl hlp hcl
  conv => lhs; whnf
  rw [cl_eq hcl (L_impl_within a_0.Dies 2 3 (pl_within a_0.Dies 2 3))]
  rotate_left
  · show _ = _
    kernel_rfl
  · show _ = _
    kernel_rfl
  conv => lhs; whnf
  cases hb1 : (inR a_0.Dies 2 3)
  · replace h := ifF h (booF hb1)
    conv => lhs; whnf
    try (rw [hb1]; conv => lhs; whnf)
    try (rw [hb1]; conv => lhs; whnf)
    try (rw [hb1]; conv => lhs; whnf)
    obtain rfl := Option.some.inj h
    show _ = _
    kernel_rfl
  · replace h := ifT h hb1
    conv => lhs; whnf
    try (rw [hb1]; conv => lhs; whnf)
    try (rw [hb1]; conv => lhs; whnf)
    rw [cl_eq hcl (L_impl_within a_0.Blocks 4 12 (pl_within a_0.Blocks 4 12))]
    rotate_left
    · show _ = _
      kernel_rfl
    · show _ = _
      kernel_rfl
    conv => lhs; whnf
    try (rw [hb1]; conv => lhs; whnf)
    cases hb2 : (inR a_0.Blocks 4 12)
    · replace h := ifF h (booF hb2)
      conv => lhs; whnf
      try (rw [hb2]; conv => lhs; whnf)
      try (rw [hb2]; conv => lhs; whnf)
      try (rw [hb2]; conv => lhs; whnf)
      try (rw [hb2]; conv => lhs; whnf)
      try (rw [hb2]; conv => lhs; whnf)
      obtain rfl := Option.some.inj h
      show _ = _
      kernel_rfl
    · replace h := ifT h hb2
      conv => lhs; whnf
      try (rw [hb2]; conv => lhs; whnf)
      try (rw [hb2]; conv => lhs; whnf)
      try (rw [hb2]; conv => lhs; whnf)
      cases hb3 : (a_0.Pages == 8)
      · replace h := ifF h (beqF hb3)
        conv => lhs; whnf
        try (rw [hb3]; conv => lhs; whnf)
        try (rw [hb3]; conv => lhs; whnf)
        try (rw [hb2]; conv => lhs; whnf)
        try (rw [hb3]; conv => lhs; whnf)
        try (rw [hb2]; conv => lhs; whnf)
        obtain rfl := Option.some.inj h
        show _ = _
        kernel_rfl
      · replace h := ifT h (beqT hb3)
        conv => lhs; whnf
        try (rw [hb3]; conv => lhs; whnf)
        try (rw [hb3]; conv => lhs; whnf)
        try (rw [hb2]; conv => lhs; whnf)
        try (rw [hb3]; conv => lhs; whnf)
        try (rw [hb2]; conv => lhs; whnf)
        obtain rfl := Option.some.inj h
        show _ = _
        kernel_rfl

noncomputable def p_impl_Geometry_all (a_0 : Geometry) : Option Int :=
  some (IntKind.i64.wrap (a_0.Dies * a_0.Blocks))

theorem L_impl_Geometry_all (a_0 : Geometry) {r : Int} (h : p_impl_Geometry_all a_0 = some r) : callL E 172 [.agg [IN a_0.Dies, IN a_0.Blocks, IN a_0.Pages]] ([] : Fo) = some (IN r, ([] : Fo)) := by
  unfold p_impl_Geometry_all at h
  refine callW (fu := Try.f172) rfl rfl rfl NN ?_
  intro lp cl hlp hcl
  conv => lhs; whnf
  obtain rfl := Option.some.inj h
  show _ = _
  kernel_rfl

noncomputable def p_impl_RandomFaults_c1 (a_0 : Int) (a_1 : Int) : Option (Int × Int) :=
  grd (a_0 ≠ 0) <|
  some ((Int.tmod (Int.tmod (IntKind.i64.wrap ((IntKind.i64.wrap (48271 * a_1)) + 11)) 999999937) a_0), (Int.tmod (IntKind.i64.wrap ((IntKind.i64.wrap (48271 * a_1)) + 11)) 999999937))

theorem L_impl_RandomFaults_c1 (a_0 : Int) (a_1 : Int) {r : (Int × Int)} (h : p_impl_RandomFaults_c1 a_0 a_1 = some r) : callL E 171 [IN a_0, .bp 0 0] ([some (.box [IN a_1])] : Fo) = some (IN r.1, ([some (.box [IN r.2])] : Fo)) := by
  unfold p_impl_RandomFaults_c1 at h
  refine callW (fu := Try.f171) rfl rfl rfl NN ?_
  intro lp cl hlp hcl
  conv => lhs; whnf
  try (rw [rem_run _ _ _ 999999937 (by decide)]; conv => lhs; whnf)
  conv => lhs; whnf
  obtain ⟨hg1, h⟩ := grd_inv h
  rw [rem_run _ _ _ _ hg1]
  conv => lhs; whnf
  obtain rfl := Option.some.inj h
  show _ = _
  kernel_rfl

noncomputable def p_impl_RandomFaults (a_0 : Geometry) (a_1 : Int) (a_2 : Int) : Option ((List Fault) × Int) :=
  callK (p_impl_ValidGeometry a_0) fun y1 =>
  if y1 = true then
    if (inR a_2 0 40) = true then
      if (Int.tmod a_1 999999937) < 0 then
        grd (a_2 < 4611686018427387904) <|
        forI a_2 (fun (i13 : Nat) ((v14, v15) : (Int × (List Fault))) (nx16 : (Int × (List Fault)) → Option _) =>
          callK (p_impl_Geometry_all a_0) fun y17 =>
          callK (p_impl_RandomFaults_c1 y17 v14) fun y18 =>
          callK (p_impl_RandomFaults_c1 a_0.Pages y18.2) fun y19 =>
          callK (p_impl_RandomFaults_c1 728 y19.2) fun y20 =>
          grd (appOk (v15.length + 1) 32 = true) <|
          nx16 (y20.2, (v15 ++ ([(⟨1, y18.1, y19.1, y20.1⟩ : Fault)] : List Fault)))) ((IntKind.i64.wrap ((Int.tmod a_1 999999937) + 999999937)), ([] : List Fault)) (fun ((v14, v15) : (Int × (List Fault))) =>
          some (v15, 0))
      else
        grd (a_2 < 4611686018427387904) <|
        forI a_2 (fun (i29 : Nat) ((v30, v31) : (Int × (List Fault))) (nx32 : (Int × (List Fault)) → Option _) =>
          callK (p_impl_Geometry_all a_0) fun y33 =>
          callK (p_impl_RandomFaults_c1 y33 v30) fun y34 =>
          callK (p_impl_RandomFaults_c1 a_0.Pages y34.2) fun y35 =>
          callK (p_impl_RandomFaults_c1 728 y35.2) fun y36 =>
          grd (appOk (v31.length + 1) 32 = true) <|
          nx32 (y36.2, (v31 ++ ([(⟨1, y34.1, y35.1, y36.1⟩ : Fault)] : List Fault)))) ((Int.tmod a_1 999999937), ([] : List Fault)) (fun ((v30, v31) : (Int × (List Fault))) =>
          some (v31, 0))
    else
      some (([] : List Fault), 2)
  else
    some (([] : List Fault), 1)

theorem L_impl_RandomFaults (a_0 : Geometry) (a_1 : Int) (a_2 : Int) {r : ((List Fault) × Int)} (h : p_impl_RandomFaults a_0 a_1 a_2 = some r) : callL E 67 [.agg [IN a_0.Dies, IN a_0.Blocks, IN a_0.Pages], IN a_1, IN a_2] ([] : Fo) = some (.tup [.d (.arr (r.1.map rFault)), IN r.2], ([] : Fo)) := by
  unfold p_impl_RandomFaults at h
  refine callW (fu := Try.f67) rfl rfl rfl NN ?_
  intro lp cl hlp hcl
  conv => lhs; whnf
  obtain ⟨y1, h_y1, h⟩ := callK_inv h
  rw [cl_eq hcl (L_impl_ValidGeometry a_0 h_y1)]
  rotate_left
  · show _ = _
    kernel_rfl
  · show _ = _
    kernel_rfl
  conv => lhs; whnf
  cases hb2 : y1
  · replace h := ifF h (booF hb2)
    conv => lhs; whnf
    obtain rfl := Option.some.inj h
    show _ = _
    kernel_rfl
  · replace h := ifT h hb2
    conv => lhs; whnf
    rw [cl_eq hcl (L_impl_within a_2 0 40 (pl_within a_2 0 40))]
    rotate_left
    · show _ = _
      kernel_rfl
    · show _ = _
      kernel_rfl
    conv => lhs; whnf
    cases hb3 : (inR a_2 0 40)
    · replace h := ifF h (booF hb3)
      conv => lhs; whnf
      obtain rfl := Option.some.inj h
      show _ = _
      kernel_rfl
    · replace h := ifT h hb3
      conv => lhs; whnf
      try (rw [rem_run _ _ _ 999999937 (by decide)]; conv => lhs; whnf)
      conv => lhs; whnf
      cases hb4 : (decide ((Int.tmod a_1 999999937) < 0))
      · replace h := ifF h (decF hb4)
        conv => lhs; whnf
        obtain ⟨hl_i29, h⟩ := grd_inv h
        refine loop_forI hlp (n := a_2) hl_i29 (fun (i29 : Nat) ((v30, v31) : (Int × (List Fault))) => ([.dead, .dead, .dead, .bp 0 0, .dead, .dead, .dead, .dead, .dead, .clo 171 [.bp 1 0], .sl 2, .dead, .dead, .dead, .dead, .dead, .dead, .dead, .dead, .dead, .dead, .dead, .dead, .dead, .dead, .dead, .dead, .dead, IN a_2, IN (i29 : Int)] ++ List.replicate 19 .dead : List V)) (fun (i29 : Nat) ((v30, v31) : (Int × (List Fault))) => ([some (.box [IN a_0.Dies, IN a_0.Blocks, IN a_0.Pages]), some (.box [IN v30]), some (.arr 97 4 (v31.map rFault))] : Fo)) (fun (r : ((List Fault) × Int)) => ((.tup [.d (.arr (r.1.map rFault)), IN r.2] : V), ([] : Fo))) ?_ ?_ ((Int.tmod a_1 999999937), ([] : List Fault)) _ (fun kk => by kernel_rfl) h
        · clear h
          rintro next_nx32 nx32 i29 hi_i29 hnx32 ⟨v30, v31⟩ r h
          try dsimp only at h
          have hn_i29 : i29 < 4611686018427387904 := by omega
          have hd_i29 : (decide ((i29 : Int) < a_2)) = true := decide_eq_true (by omega)
          conv => lhs; whnf
          rw [hd_i29]
          conv => lhs; whnf
          obtain ⟨y33, h_y33, h⟩ := callK_inv h
          rw [cl_eq hcl (L_impl_Geometry_all a_0 h_y33)]
          rotate_left
          · show _ = _
            kernel_rfl
          · show _ = _
            kernel_rfl
          conv => lhs; whnf
          obtain ⟨y34, h_y34, h⟩ := callK_inv h
          rw [cl_eq hcl (L_impl_RandomFaults_c1 y33 v30 h_y34)]
          rotate_left
          · show _ = _
            kernel_rfl
          · show _ = _
            kernel_rfl
          conv => lhs; whnf
          obtain ⟨y35, h_y35, h⟩ := callK_inv h
          rw [cl_eq hcl (L_impl_RandomFaults_c1 a_0.Pages y34.2 h_y35)]
          rotate_left
          · show _ = _
            kernel_rfl
          · show _ = _
            kernel_rfl
          conv => lhs; whnf
          obtain ⟨y36, h_y36, h⟩ := callK_inv h
          rw [cl_eq hcl (L_impl_RandomFaults_c1 728 y35.2 h_y36)]
          rotate_left
          · show _ = _
            kernel_rfl
          · show _ = _
            kernel_rfl
          conv => lhs; whnf
          obtain ⟨hg37, h⟩ := grd_inv h
          rw [app_eq hg37 ?h1 ?h2]
          case h1 => first | exact rfl | (simp only [List.length_map, List.length_cons, List.length_nil]; done) | (rw [List.length_map]; rfl)
          case h2 => exact rfl
          conv => lhs; whnf
          first | (rw [map_app_of (r := rFault) (l := v31) (m := ([(⟨1, y34.1, y35.1, y36.1⟩ : Fault)] : List Fault)) ?hh]; case hh => exact rfl) | skip
          rw [wrap_nat i29 (by have := hn_i29; omega)]
          exact hnx32 _ _ _ _ (fun kk => by kernel_rfl) h
        · clear h
          rintro next_nx32 ⟨v30, v31⟩ r h
          try dsimp only at h
          have hd_i29 : (decide (((Int.toNat a_2) : Int) < a_2)) = false := decide_eq_false (by omega)
          conv => lhs; whnf
          rw [hd_i29]
          conv => lhs; whnf
          obtain rfl := Option.some.inj h
          show _ = _
          kernel_rfl
      · replace h := ifT h (decT hb4)
        conv => lhs; whnf
        obtain ⟨hl_i13, h⟩ := grd_inv h
        refine loop_forI hlp (n := a_2) hl_i13 (fun (i13 : Nat) ((v14, v15) : (Int × (List Fault))) => ([.dead, .dead, .dead, .bp 0 0, .dead, .dead, .dead, .dead, .dead, .clo 171 [.bp 1 0], .sl 2, .dead, .dead, .dead, .dead, .dead, .dead, .dead, .dead, .dead, .dead, .dead, .dead, .dead, .dead, .dead, .dead, .dead, IN a_2, IN (i13 : Int)] ++ List.replicate 19 .dead : List V)) (fun (i13 : Nat) ((v14, v15) : (Int × (List Fault))) => ([some (.box [IN a_0.Dies, IN a_0.Blocks, IN a_0.Pages]), some (.box [IN v14]), some (.arr 97 4 (v15.map rFault))] : Fo)) (fun (r : ((List Fault) × Int)) => ((.tup [.d (.arr (r.1.map rFault)), IN r.2] : V), ([] : Fo))) ?_ ?_ ((IntKind.i64.wrap ((Int.tmod a_1 999999937) + 999999937)), ([] : List Fault)) _ (fun kk => by kernel_rfl) h
        · clear h
          rintro next_nx16 nx16 i13 hi_i13 hnx16 ⟨v14, v15⟩ r h
          try dsimp only at h
          have hn_i13 : i13 < 4611686018427387904 := by omega
          have hd_i13 : (decide ((i13 : Int) < a_2)) = true := decide_eq_true (by omega)
          conv => lhs; whnf
          rw [hd_i13]
          conv => lhs; whnf
          obtain ⟨y17, h_y17, h⟩ := callK_inv h
          rw [cl_eq hcl (L_impl_Geometry_all a_0 h_y17)]
          rotate_left
          · show _ = _
            kernel_rfl
          · show _ = _
            kernel_rfl
          conv => lhs; whnf
          obtain ⟨y18, h_y18, h⟩ := callK_inv h
          rw [cl_eq hcl (L_impl_RandomFaults_c1 y17 v14 h_y18)]
          rotate_left
          · show _ = _
            kernel_rfl
          · show _ = _
            kernel_rfl
          conv => lhs; whnf
          obtain ⟨y19, h_y19, h⟩ := callK_inv h
          rw [cl_eq hcl (L_impl_RandomFaults_c1 a_0.Pages y18.2 h_y19)]
          rotate_left
          · show _ = _
            kernel_rfl
          · show _ = _
            kernel_rfl
          conv => lhs; whnf
          obtain ⟨y20, h_y20, h⟩ := callK_inv h
          rw [cl_eq hcl (L_impl_RandomFaults_c1 728 y19.2 h_y20)]
          rotate_left
          · show _ = _
            kernel_rfl
          · show _ = _
            kernel_rfl
          conv => lhs; whnf
          obtain ⟨hg38, h⟩ := grd_inv h
          rw [app_eq hg38 ?h1 ?h2]
          case h1 => first | exact rfl | (simp only [List.length_map, List.length_cons, List.length_nil]; done) | (rw [List.length_map]; rfl)
          case h2 => exact rfl
          conv => lhs; whnf
          first | (rw [map_app_of (r := rFault) (l := v15) (m := ([(⟨1, y18.1, y19.1, y20.1⟩ : Fault)] : List Fault)) ?hh]; case hh => exact rfl) | skip
          rw [wrap_nat i13 (by have := hn_i13; omega)]
          exact hnx16 _ _ _ _ (fun kk => by kernel_rfl) h
        · clear h
          rintro next_nx16 ⟨v14, v15⟩ r h
          try dsimp only at h
          have hd_i13 : (decide (((Int.toNat a_2) : Int) < a_2)) = false := decide_eq_false (by omega)
          conv => lhs; whnf
          rw [hd_i13]
          conv => lhs; whnf
          obtain rfl := Option.some.inj h
          show _ = _
          kernel_rfl

noncomputable def p_spec_ValidGeometry (a_0 : Geometry) : Option Bool :=
  if (inR a_0.Dies 2 3) = true then
    if (inR a_0.Blocks 4 12) = true then
      if a_0.Pages = 8 then
        some true
      else
        some (a_0.Pages == 16)
    else
      some false
  else
    some false

theorem L_spec_ValidGeometry (a_0 : Geometry) {r : Bool} (h : p_spec_ValidGeometry a_0 = some r) : callL E 173 [.agg [IN a_0.Dies, IN a_0.Blocks, IN a_0.Pages]] ([] : Fo) = some (BO r, ([] : Fo)) := by
  unfold p_spec_ValidGeometry at h
  refine callW (fu := Try.f173) rfl rfl rfl NN ?_
  intro lp cl hlp hcl
  conv => lhs; whnf
  rw [cl_eq hcl (L_spec_l00In a_0.Dies 2 3 (pl_l00In a_0.Dies 2 3))]
  rotate_left
  · show _ = _
    kernel_rfl
  · show _ = _
    kernel_rfl
  conv => lhs; whnf
  cases hb1 : (inR a_0.Dies 2 3)
  · replace h := ifF h (booF hb1)
    conv => lhs; whnf
    try (rw [hb1]; conv => lhs; whnf)
    try (rw [hb1]; conv => lhs; whnf)
    try (rw [hb1]; conv => lhs; whnf)
    obtain rfl := Option.some.inj h
    show _ = _
    kernel_rfl
  · replace h := ifT h hb1
    conv => lhs; whnf
    try (rw [hb1]; conv => lhs; whnf)
    try (rw [hb1]; conv => lhs; whnf)
    rw [cl_eq hcl (L_spec_l00In a_0.Blocks 4 12 (pl_l00In a_0.Blocks 4 12))]
    rotate_left
    · show _ = _
      kernel_rfl
    · show _ = _
      kernel_rfl
    conv => lhs; whnf
    try (rw [hb1]; conv => lhs; whnf)
    cases hb2 : (inR a_0.Blocks 4 12)
    · replace h := ifF h (booF hb2)
      conv => lhs; whnf
      try (rw [hb2]; conv => lhs; whnf)
      try (rw [hb2]; conv => lhs; whnf)
      try (rw [hb2]; conv => lhs; whnf)
      try (rw [hb2]; conv => lhs; whnf)
      try (rw [hb2]; conv => lhs; whnf)
      obtain rfl := Option.some.inj h
      show _ = _
      kernel_rfl
    · replace h := ifT h hb2
      conv => lhs; whnf
      try (rw [hb2]; conv => lhs; whnf)
      try (rw [hb2]; conv => lhs; whnf)
      try (rw [hb2]; conv => lhs; whnf)
      cases hb3 : (a_0.Pages == 8)
      · replace h := ifF h (beqF hb3)
        conv => lhs; whnf
        try (rw [hb3]; conv => lhs; whnf)
        try (rw [hb3]; conv => lhs; whnf)
        try (rw [hb2]; conv => lhs; whnf)
        try (rw [hb3]; conv => lhs; whnf)
        try (rw [hb2]; conv => lhs; whnf)
        obtain rfl := Option.some.inj h
        show _ = _
        kernel_rfl
      · replace h := ifT h (beqT hb3)
        conv => lhs; whnf
        try (rw [hb3]; conv => lhs; whnf)
        try (rw [hb3]; conv => lhs; whnf)
        try (rw [hb2]; conv => lhs; whnf)
        try (rw [hb3]; conv => lhs; whnf)
        try (rw [hb2]; conv => lhs; whnf)
        obtain rfl := Option.some.inj h
        show _ = _
        kernel_rfl

noncomputable def p_spec_RandomFaults (a_0 : Geometry) (a_1 : Int) (a_2 : Int) : Option ((List Fault) × Int) :=
  callK (p_spec_ValidGeometry a_0) fun y1 =>
  if y1 = true then
    if (inR a_2 0 40) = true then
      grd (a_2 < 4611686018427387904) <|
      forI a_2 (fun (i8 : Nat) ((v9, v10) : (Int × (List Fault))) (nx11 : (Int × (List Fault)) → Option _) =>
        grd ((IntKind.i64.wrap (a_0.Dies * a_0.Blocks)) ≠ 0) <|
        grd (a_0.Pages ≠ 0) <|
        grd (appOk (v10.length + 1) 32 = true) <|
        nx11 ((Int.tmod (IntKind.i64.wrap ((IntKind.i64.wrap (48271 * (Int.tmod (IntKind.i64.wrap ((IntKind.i64.wrap (48271 * (Int.tmod (IntKind.i64.wrap ((IntKind.i64.wrap (48271 * v9)) + 11)) 999999937))) + 11)) 999999937))) + 11)) 999999937), (v10 ++ ([(⟨1, (Int.tmod (Int.tmod (IntKind.i64.wrap ((IntKind.i64.wrap (48271 * v9)) + 11)) 999999937) (IntKind.i64.wrap (a_0.Dies * a_0.Blocks))), (Int.tmod (Int.tmod (IntKind.i64.wrap ((IntKind.i64.wrap (48271 * (Int.tmod (IntKind.i64.wrap ((IntKind.i64.wrap (48271 * v9)) + 11)) 999999937))) + 11)) 999999937) a_0.Pages), (Int.tmod (Int.tmod (IntKind.i64.wrap ((IntKind.i64.wrap (48271 * (Int.tmod (IntKind.i64.wrap ((IntKind.i64.wrap (48271 * (Int.tmod (IntKind.i64.wrap ((IntKind.i64.wrap (48271 * v9)) + 11)) 999999937))) + 11)) 999999937))) + 11)) 999999937) 728)⟩ : Fault)] : List Fault)))) ((Int.tmod (IntKind.i64.wrap ((Int.tmod a_1 999999937) + 999999937)) 999999937), ([] : List Fault)) (fun ((v9, v10) : (Int × (List Fault))) =>
        some (v10, 0))
    else
      some (([] : List Fault), 2)
  else
    some (([] : List Fault), 1)

theorem L_spec_RandomFaults (a_0 : Geometry) (a_1 : Int) (a_2 : Int) {r : ((List Fault) × Int)} (h : p_spec_RandomFaults a_0 a_1 a_2 = some r) : callL E 68 [.agg [IN a_0.Dies, IN a_0.Blocks, IN a_0.Pages], IN a_1, IN a_2] ([] : Fo) = some (.tup [.d (.arr (r.1.map rFault)), IN r.2], ([] : Fo)) := by
  unfold p_spec_RandomFaults at h
  refine callW (fu := Try.f68) rfl rfl rfl NN ?_
  intro lp cl hlp hcl
  conv => lhs; whnf
  obtain ⟨y1, h_y1, h⟩ := callK_inv h
  rw [cl_eq hcl (L_spec_ValidGeometry a_0 h_y1)]
  rotate_left
  · show _ = _
    kernel_rfl
  · show _ = _
    kernel_rfl
  conv => lhs; whnf
  cases hb2 : y1
  · replace h := ifF h (booF hb2)
    conv => lhs; whnf
    obtain rfl := Option.some.inj h
    show _ = _
    kernel_rfl
  · replace h := ifT h hb2
    conv => lhs; whnf
    rw [cl_eq hcl (L_spec_l00In a_2 0 40 (pl_l00In a_2 0 40))]
    rotate_left
    · show _ = _
      kernel_rfl
    · show _ = _
      kernel_rfl
    conv => lhs; whnf
    cases hb3 : (inR a_2 0 40)
    · replace h := ifF h (booF hb3)
      conv => lhs; whnf
      obtain rfl := Option.some.inj h
      show _ = _
      kernel_rfl
    · replace h := ifT h hb3
      conv => lhs; whnf
      try (rw [rem_run _ _ _ 999999937 (by decide)]; conv => lhs; whnf)
      conv => lhs; whnf
      try (rw [rem_run _ _ _ 999999937 (by decide)]; conv => lhs; whnf)
      conv => lhs; whnf
      obtain ⟨hl_i8, h⟩ := grd_inv h
      refine loop_forI hlp (n := a_2) hl_i8 (fun (i8 : Nat) ((v9, v10) : (Int × (List Fault))) => ([.dead, .dead, IN a_2, .bp 0 0, .dead, .dead, .dead, .dead, .sl 1, IN v9, IN (i8 : Int)] ++ List.replicate 50 .dead : List V)) (fun (i8 : Nat) ((v9, v10) : (Int × (List Fault))) => ([some (.box [IN a_0.Dies, IN a_0.Blocks, IN a_0.Pages]), some (.arr 97 4 (v10.map rFault))] : Fo)) (fun (r : ((List Fault) × Int)) => ((.tup [.d (.arr (r.1.map rFault)), IN r.2] : V), ([] : Fo))) ?_ ?_ ((Int.tmod (IntKind.i64.wrap ((Int.tmod a_1 999999937) + 999999937)) 999999937), ([] : List Fault)) _ (fun kk => by kernel_rfl) h
      · clear h
        rintro next_nx11 nx11 i8 hi_i8 hnx11 ⟨v9, v10⟩ r h
        try dsimp only at h
        have hn_i8 : i8 < 4611686018427387904 := by omega
        have hd_i8 : (decide ((i8 : Int) < a_2)) = true := decide_eq_true (by omega)
        conv => lhs; whnf
        rw [hd_i8]
        conv => lhs; whnf
        try (rw [rem_run _ _ _ 999999937 (by decide)]; conv => lhs; whnf)
        conv => lhs; whnf
        try (rw [rem_run _ _ _ 999999937 (by decide)]; conv => lhs; whnf)
        conv => lhs; whnf
        try (rw [rem_run _ _ _ 999999937 (by decide)]; conv => lhs; whnf)
        conv => lhs; whnf
        obtain ⟨hg12, h⟩ := grd_inv h
        rw [rem_run _ _ _ _ hg12]
        conv => lhs; whnf
        obtain ⟨hg13, h⟩ := grd_inv h
        rw [rem_run _ _ _ _ hg13]
        conv => lhs; whnf
        try (rw [rem_run _ _ _ 728 (by decide)]; conv => lhs; whnf)
        conv => lhs; whnf
        obtain ⟨hg14, h⟩ := grd_inv h
        rw [app_eq hg14 ?h1 ?h2]
        case h1 => first | exact rfl | (simp only [List.length_map, List.length_cons, List.length_nil]; done) | (rw [List.length_map]; rfl)
        case h2 => exact rfl
        conv => lhs; whnf
        first | (rw [map_app_of (r := rFault) (l := v10) (m := ([(⟨1, (Int.tmod (Int.tmod (IntKind.i64.wrap ((IntKind.i64.wrap (48271 * v9)) + 11)) 999999937) (IntKind.i64.wrap (a_0.Dies * a_0.Blocks))), (Int.tmod (Int.tmod (IntKind.i64.wrap ((IntKind.i64.wrap (48271 * (Int.tmod (IntKind.i64.wrap ((IntKind.i64.wrap (48271 * v9)) + 11)) 999999937))) + 11)) 999999937) a_0.Pages), (Int.tmod (Int.tmod (IntKind.i64.wrap ((IntKind.i64.wrap (48271 * (Int.tmod (IntKind.i64.wrap ((IntKind.i64.wrap (48271 * (Int.tmod (IntKind.i64.wrap ((IntKind.i64.wrap (48271 * v9)) + 11)) 999999937))) + 11)) 999999937))) + 11)) 999999937) 728)⟩ : Fault)] : List Fault)) ?hh]; case hh => exact rfl) | skip
        rw [wrap_nat i8 (by have := hn_i8; omega)]
        exact hnx11 _ _ _ _ (fun kk => by kernel_rfl) h
      · clear h
        rintro next_nx11 ⟨v9, v10⟩ r h
        try dsimp only at h
        have hd_i8 : (decide (((Int.toNat a_2) : Int) < a_2)) = false := decide_eq_false (by omega)
        conv => lhs; whnf
        rw [hd_i8]
        conv => lhs; whnf
        obtain rfl := Option.some.inj h
        show _ = _
        kernel_rfl

noncomputable def p_spec_ValidFault (a_0 : Geometry) (a_1 : Fault) : Option Bool :=
  callK (p_spec_ValidGeometry a_0) fun y1 =>
  if y1 = true then
    if a_1.Kind = 1 then
      if (inR a_1.Block 0 (IntKind.i64.wrap ((IntKind.i64.wrap (a_0.Dies * a_0.Blocks)) - 1))) = true then
        if (inR a_1.Page 0 (IntKind.i64.wrap (a_0.Pages - 1))) = true then
          some (inR a_1.Bit 0 727)
        else
          some false
      else
        some false
    else
      if a_1.Kind = 2 then
        if (inR a_1.Block 0 (IntKind.i64.wrap ((IntKind.i64.wrap (a_0.Dies * a_0.Blocks)) - 1))) = true then
          if (inR a_1.Page 0 (IntKind.i64.wrap (a_0.Pages - 1))) = true then
            some (inR a_1.Bit 0 727)
          else
            some false
        else
          some false
      else
        if a_1.Kind = 3 then
          if (inR a_1.Block 0 (IntKind.i64.wrap ((IntKind.i64.wrap (a_0.Dies * a_0.Blocks)) - 1))) = true then
            if (inR a_1.Bit 0 727) = true then
              some (a_1.Page == 0)
            else
              some false
          else
            some false
        else
          if a_1.Kind = 4 then
            if (inR a_1.Block 0 (IntKind.i64.wrap ((IntKind.i64.wrap (a_0.Dies * a_0.Blocks)) - 1))) = true then
              if a_1.Page = 0 then
                some (a_1.Bit == 0)
              else
                some false
            else
              some false
          else
            if a_1.Kind = 5 then
              if a_1.Block = 0 then
                if (inR a_1.Page 0 1000000) = true then
                  some (inR a_1.Bit 0 91)
                else
                  some false
              else
                some false
            else
              some false
  else
    some false

theorem L_spec_ValidFault (a_0 : Geometry) (a_1 : Fault) {r : Bool} (h : p_spec_ValidFault a_0 a_1 = some r) : callL E 69 [.agg [IN a_0.Dies, IN a_0.Blocks, IN a_0.Pages], .agg [IN a_1.Kind, IN a_1.Block, IN a_1.Page, IN a_1.Bit]] ([] : Fo) = some (BO r, ([] : Fo)) := by
  unfold p_spec_ValidFault at h
  refine callW (fu := Try.f69) rfl rfl rfl NN ?_
  intro lp cl hlp hcl
  conv => lhs; whnf
  obtain ⟨y1, h_y1, h⟩ := callK_inv h
  rw [cl_eq hcl (L_spec_ValidGeometry a_0 h_y1)]
  rotate_left
  · show _ = _
    kernel_rfl
  · show _ = _
    kernel_rfl
  conv => lhs; whnf
  cases hb2 : y1
  · replace h := ifF h (booF hb2)
    conv => lhs; whnf
    obtain rfl := Option.some.inj h
    show _ = _
    kernel_rfl
  · replace h := ifT h hb2
    conv => lhs; whnf
    rw [cl_eq hcl (L_spec_l00In a_1.Block 0 (IntKind.i64.wrap ((IntKind.i64.wrap (a_0.Dies * a_0.Blocks)) - 1)) (pl_l00In a_1.Block 0 (IntKind.i64.wrap ((IntKind.i64.wrap (a_0.Dies * a_0.Blocks)) - 1))))]
    rotate_left
    · show _ = _
      kernel_rfl
    · show _ = _
      kernel_rfl
    conv => lhs; whnf
    rw [cl_eq hcl (L_spec_l00In a_1.Page 0 (IntKind.i64.wrap (a_0.Pages - 1)) (pl_l00In a_1.Page 0 (IntKind.i64.wrap (a_0.Pages - 1))))]
    rotate_left
    · show _ = _
      kernel_rfl
    · show _ = _
      kernel_rfl
    conv => lhs; whnf
    rw [cl_eq hcl (L_spec_l00In a_1.Bit 0 727 (pl_l00In a_1.Bit 0 727))]
    rotate_left
    · show _ = _
      kernel_rfl
    · show _ = _
      kernel_rfl
    conv => lhs; whnf
    cases hb3 : (a_1.Kind == 1)
    · replace h := ifF h (beqF hb3)
      conv => lhs; whnf
      cases hb6 : (a_1.Kind == 2)
      · replace h := ifF h (beqF hb6)
        conv => lhs; whnf
        cases hb9 : (a_1.Kind == 3)
        · replace h := ifF h (beqF hb9)
          conv => lhs; whnf
          cases hb12 : (a_1.Kind == 4)
          · replace h := ifF h (beqF hb12)
            conv => lhs; whnf
            cases hb15 : (a_1.Kind == 5)
            · replace h := ifF h (beqF hb15)
              conv => lhs; whnf
              obtain rfl := Option.some.inj h
              show _ = _
              kernel_rfl
            · replace h := ifT h (beqT hb15)
              conv => lhs; whnf
              cases hb16 : (a_1.Block == 0)
              · replace h := ifF h (beqF hb16)
                conv => lhs; whnf
                try (rw [hb16]; conv => lhs; whnf)
                try (rw [hb16]; conv => lhs; whnf)
                try (rw [hb16]; conv => lhs; whnf)
                obtain rfl := Option.some.inj h
                show _ = _
                kernel_rfl
              · replace h := ifT h (beqT hb16)
                conv => lhs; whnf
                try (rw [hb16]; conv => lhs; whnf)
                try (rw [hb16]; conv => lhs; whnf)
                rw [cl_eq hcl (L_spec_l00In a_1.Page 0 1000000 (pl_l00In a_1.Page 0 1000000))]
                rotate_left
                · show _ = _
                  kernel_rfl
                · show _ = _
                  kernel_rfl
                conv => lhs; whnf
                try (rw [hb16]; conv => lhs; whnf)
                cases hb17 : (inR a_1.Page 0 1000000)
                · replace h := ifF h (booF hb17)
                  conv => lhs; whnf
                  try (rw [hb17]; conv => lhs; whnf)
                  try (rw [hb17]; conv => lhs; whnf)
                  try (rw [hb17]; conv => lhs; whnf)
                  obtain rfl := Option.some.inj h
                  show _ = _
                  kernel_rfl
                · replace h := ifT h hb17
                  conv => lhs; whnf
                  try (rw [hb17]; conv => lhs; whnf)
                  try (rw [hb17]; conv => lhs; whnf)
                  rw [cl_eq hcl (L_spec_l00In a_1.Bit 0 91 (pl_l00In a_1.Bit 0 91))]
                  rotate_left
                  · show _ = _
                    kernel_rfl
                  · show _ = _
                    kernel_rfl
                  conv => lhs; whnf
                  try (rw [hb17]; conv => lhs; whnf)
                  obtain rfl := Option.some.inj h
                  show _ = _
                  kernel_rfl
          · replace h := ifT h (beqT hb12)
            conv => lhs; whnf
            cases hb13 : (inR a_1.Block 0 (IntKind.i64.wrap ((IntKind.i64.wrap (a_0.Dies * a_0.Blocks)) - 1)))
            · replace h := ifF h (booF hb13)
              conv => lhs; whnf
              try (rw [hb13]; conv => lhs; whnf)
              try (rw [hb13]; conv => lhs; whnf)
              try (rw [hb13]; conv => lhs; whnf)
              obtain rfl := Option.some.inj h
              show _ = _
              kernel_rfl
            · replace h := ifT h hb13
              conv => lhs; whnf
              try (rw [hb13]; conv => lhs; whnf)
              try (rw [hb13]; conv => lhs; whnf)
              try (rw [hb13]; conv => lhs; whnf)
              cases hb14 : (a_1.Page == 0)
              · replace h := ifF h (beqF hb14)
                conv => lhs; whnf
                try (rw [hb14]; conv => lhs; whnf)
                try (rw [hb14]; conv => lhs; whnf)
                try (rw [hb14]; conv => lhs; whnf)
                obtain rfl := Option.some.inj h
                show _ = _
                kernel_rfl
              · replace h := ifT h (beqT hb14)
                conv => lhs; whnf
                try (rw [hb14]; conv => lhs; whnf)
                try (rw [hb14]; conv => lhs; whnf)
                try (rw [hb14]; conv => lhs; whnf)
                obtain rfl := Option.some.inj h
                show _ = _
                kernel_rfl
        · replace h := ifT h (beqT hb9)
          conv => lhs; whnf
          cases hb10 : (inR a_1.Block 0 (IntKind.i64.wrap ((IntKind.i64.wrap (a_0.Dies * a_0.Blocks)) - 1)))
          · replace h := ifF h (booF hb10)
            conv => lhs; whnf
            try (rw [hb10]; conv => lhs; whnf)
            obtain rfl := Option.some.inj h
            show _ = _
            kernel_rfl
          · replace h := ifT h hb10
            conv => lhs; whnf
            try (rw [hb10]; conv => lhs; whnf)
            cases hb11 : (inR a_1.Bit 0 727)
            · replace h := ifF h (booF hb11)
              conv => lhs; whnf
              try (rw [hb11]; conv => lhs; whnf)
              try (rw [hb11]; conv => lhs; whnf)
              try (rw [hb11]; conv => lhs; whnf)
              obtain rfl := Option.some.inj h
              show _ = _
              kernel_rfl
            · replace h := ifT h hb11
              conv => lhs; whnf
              try (rw [hb11]; conv => lhs; whnf)
              try (rw [hb11]; conv => lhs; whnf)
              try (rw [hb11]; conv => lhs; whnf)
              obtain rfl := Option.some.inj h
              show _ = _
              kernel_rfl
      · replace h := ifT h (beqT hb6)
        conv => lhs; whnf
        cases hb7 : (inR a_1.Block 0 (IntKind.i64.wrap ((IntKind.i64.wrap (a_0.Dies * a_0.Blocks)) - 1)))
        · replace h := ifF h (booF hb7)
          conv => lhs; whnf
          try (rw [hb7]; conv => lhs; whnf)
          obtain rfl := Option.some.inj h
          show _ = _
          kernel_rfl
        · replace h := ifT h hb7
          conv => lhs; whnf
          try (rw [hb7]; conv => lhs; whnf)
          cases hb8 : (inR a_1.Page 0 (IntKind.i64.wrap (a_0.Pages - 1)))
          · replace h := ifF h (booF hb8)
            conv => lhs; whnf
            try (rw [hb8]; conv => lhs; whnf)
            obtain rfl := Option.some.inj h
            show _ = _
            kernel_rfl
          · replace h := ifT h hb8
            conv => lhs; whnf
            try (rw [hb8]; conv => lhs; whnf)
            obtain rfl := Option.some.inj h
            show _ = _
            kernel_rfl
    · replace h := ifT h (beqT hb3)
      conv => lhs; whnf
      try (rw [hb3]; conv => lhs; whnf)
      cases hb4 : (inR a_1.Block 0 (IntKind.i64.wrap ((IntKind.i64.wrap (a_0.Dies * a_0.Blocks)) - 1)))
      · replace h := ifF h (booF hb4)
        conv => lhs; whnf
        try (rw [hb4]; conv => lhs; whnf)
        obtain rfl := Option.some.inj h
        show _ = _
        kernel_rfl
      · replace h := ifT h hb4
        conv => lhs; whnf
        try (rw [hb4]; conv => lhs; whnf)
        cases hb5 : (inR a_1.Page 0 (IntKind.i64.wrap (a_0.Pages - 1)))
        · replace h := ifF h (booF hb5)
          conv => lhs; whnf
          try (rw [hb5]; conv => lhs; whnf)
          obtain rfl := Option.some.inj h
          show _ = _
          kernel_rfl
        · replace h := ifT h hb5
          conv => lhs; whnf
          try (rw [hb5]; conv => lhs; whnf)
          obtain rfl := Option.some.inj h
          show _ = _
          kernel_rfl

noncomputable def p_laws_FnRandomFaults (a_0 : List Int) : Option Bool :=
  if (a_0.length : Int) > 400 then
    some true
  else
    callK (p_spec_DrawRandomFaults a_0) fun y2 =>
    callK (p_impl_RandomFaults y2.1 y2.2.1 y2.2.2) fun y3 =>
    callK (p_spec_RandomFaults y2.1 y2.2.1 y2.2.2) fun y4 =>
    if ¬ y3.2 = y4.2 then
      some false
    else
      if ¬ y3.2 = 0 then
        if (y3.1.length : Int) > 0 then
          some false
        else
          some true
      else
        callK (p_impl_RandomFaults y2.1 (Int.tmod y2.2.1 999999937) 40) fun y8 =>
        if ¬ (y3.1.length : Int) = y2.2.2 then
          some false
        else
          if ¬ (y8.1.length : Int) = 40 then
            some false
          else
            grd (y3.1.length < 4611686018427387904) <|
            forK y3.1 (fun (i18 : Nat) x20 (_ : Unit) (nx19 : Unit → Option _) =>
              getK y8.1 (i18 : Int) fun x21 =>
              if ((x20.Kind == x21.Kind) && ((x20.Block == x21.Block) && ((x20.Page == x21.Page) && ((x20.Bit == x21.Bit) && true)))) = true then
                callK (p_spec_ValidFault y2.1 x20) fun y23 =>
                if y23 = true then
                  nx19 ()
                else
                  some false
              else
                some false) () (fun (_ : Unit) =>
              some true)

theorem L_laws_FnRandomFaults (a_0 : List Int) {r : Bool} (h : p_laws_FnRandomFaults a_0 = some r) : callL E 10 [.d (.arr (a_0.map rU))] ([] : Fo) = some (BO r, ([] : Fo)) := by
  unfold p_laws_FnRandomFaults at h
  refine callW (fu := Try.f10) rfl rfl rfl NN ?_
  intro lp cl hlp hcl
  conv => lhs; whnf
  try rw [len_of (l := a_0) (r := rU)]
  cases hb1 : (decide ((a_0.length : Int) > 400))
  · replace h := ifF h (decF hb1)
    conv => lhs; whnf
    obtain ⟨y2, h_y2, h⟩ := callK_inv h
    rw [cl_eq hcl (L_spec_DrawRandomFaults a_0 h_y2)]
    rotate_left
    · show _ = _
      kernel_rfl
    · show _ = _
      kernel_rfl
    conv => lhs; whnf
    obtain ⟨y3, h_y3, h⟩ := callK_inv h
    rw [cl_eq hcl (L_impl_RandomFaults y2.1 y2.2.1 y2.2.2 h_y3)]
    rotate_left
    · show _ = _
      kernel_rfl
    · show _ = _
      kernel_rfl
    conv => lhs; whnf
    obtain ⟨y4, h_y4, h⟩ := callK_inv h
    rw [cl_eq hcl (L_spec_RandomFaults y2.1 y2.2.1 y2.2.2 h_y4)]
    rotate_left
    · show _ = _
      kernel_rfl
    · show _ = _
      kernel_rfl
    conv => lhs; whnf
    cases hb5 : (y3.2 != y4.2)
    · replace h := ifF h ((fun h => not_not_intro (bneF h)) hb5)
      conv => lhs; whnf
      try (rw [hb5]; conv => lhs; whnf)
      try (rw [hb5]; conv => lhs; whnf)
      cases hb6 : (y3.2 != 0)
      · replace h := ifF h ((fun h => not_not_intro (bneF h)) hb6)
        conv => lhs; whnf
        try (rw [hb6]; conv => lhs; whnf)
        try (rw [hb6]; conv => lhs; whnf)
        try (rw [hb5]; conv => lhs; whnf)
        try (rw [hb6]; conv => lhs; whnf)
        try (rw [hb5]; conv => lhs; whnf)
        try (rw [hb6]; conv => lhs; whnf)
        try (rw [rem_run _ _ _ 999999937 (by decide)]; conv => lhs; whnf)
        conv => lhs; whnf
        obtain ⟨y8, h_y8, h⟩ := callK_inv h
        rw [cl_eq hcl (L_impl_RandomFaults y2.1 (Int.tmod y2.2.1 999999937) 40 h_y8)]
        rotate_left
        · show _ = _
          kernel_rfl
        · show _ = _
          kernel_rfl
        conv => lhs; whnf
        try rw [len_of (l := y3.1) (r := rFault)]
        cases hb9 : ((y3.1.length : Int) != y2.2.2)
        · replace h := ifF h ((fun h => not_not_intro (bneF h)) hb9)
          conv => lhs; whnf
          try (rw [hb9]; conv => lhs; whnf)
          try rw [len_of (l := y8.1) (r := rFault)]
          try (rw [hb9]; conv => lhs; whnf)
          try (rw [hb9]; conv => lhs; whnf)
          cases hb10 : ((y8.1.length : Int) != 40)
          · replace h := ifF h ((fun h => not_not_intro (bneF h)) hb10)
            conv => lhs; whnf
            obtain ⟨hl_i18, h⟩ := grd_inv h
            refine loop_for hlp (l := y3.1) hl_i18 (fun (i18 : Nat) (_ : Unit) => ([.dead, .dead, .dead, .bp 0 0, .dead, .dead, .d (.arr (y3.1.map rFault)), .dead, .dead, .dead, .d (.arr (y8.1.map rFault)), .dead, IN (i18 : Int)] ++ List.replicate 77 .dead : List V)) (fun (i18 : Nat) (_ : Unit) => ([some (.box [IN y2.1.Dies, IN y2.1.Blocks, IN y2.1.Pages])] : Fo)) (fun (r : Bool) => ((BO r : V), ([] : Fo))) ?_ ?_ () _ (fun kk => by kernel_rfl) h
            · clear h
              rintro next_nx19 nx19 i18 hi_i18 hnx19 ⟨⟩ r h
              try dsimp only at h
              have hn_i18 : i18 < 4611686018427387904 := by omega
              have hx_x20 := get_map rFault y3.1 i18 hi_i18
              generalize y3.1[i18] = x20 at h hx_x20
              have hd_i18 : (decide ((i18 : Int) < (y3.1.length : Int))) = true := decide_eq_true (by omega)
              conv => lhs; whnf
              try rw [len_of (l := y3.1) (r := rFault)]
              rw [hd_i18]
              conv => lhs; whnf
              try (rw [decide_eq_true hq_x20]; conv => lhs; whnf)
              rw [hx_x20]
              conv => lhs; whnf
              rw [hx_x20]
              conv => lhs; whnf
              obtain ⟨x21, hq_x21, hx_x21', h⟩ := getK_inv h
              have hx_x21 := get_of (r := rFault) hx_x21'
              try (rw [decide_eq_true hq_x21]; conv => lhs; whnf)
              rw [hx_x21]
              conv => lhs; whnf
              rw [hx_x21]
              conv => lhs; whnf
              cases hb22 : ((x20.Kind == x21.Kind) && ((x20.Block == x21.Block) && ((x20.Page == x21.Page) && ((x20.Bit == x21.Bit) && true))))
              · replace h := ifF h (booF hb22)
                conv => lhs; whnf
                try (rw [hb22]; conv => lhs; whnf)
                try (rw [hb22]; conv => lhs; whnf)
                try (rw [hb22]; conv => lhs; whnf)
                try (rw [hb22]; conv => lhs; whnf)
                try (rw [hb22]; conv => lhs; whnf)
                try (rw [hb22]; conv => lhs; whnf)
                try (rw [hb22]; conv => lhs; whnf)
                obtain rfl := Option.some.inj h
                show _ = _
                kernel_rfl
              · replace h := ifT h hb22
                conv => lhs; whnf
                try (rw [hb22]; conv => lhs; whnf)
                try (rw [hb22]; conv => lhs; whnf)
                try (rw [hb22]; conv => lhs; whnf)
                try (rw [decide_eq_true hq_x20]; conv => lhs; whnf)
                rw [hx_x20]
                conv => lhs; whnf
                try (rw [hb22]; conv => lhs; whnf)
                rw [hx_x20]
                conv => lhs; whnf
                try (rw [hb22]; conv => lhs; whnf)
                obtain ⟨y23, h_y23, h⟩ := callK_inv h
                rw [cl_eq hcl (L_spec_ValidFault y2.1 x20 h_y23)]
                rotate_left
                · show _ = _
                  kernel_rfl
                · show _ = _
                  kernel_rfl
                conv => lhs; whnf
                try (rw [hb22]; conv => lhs; whnf)
                try (rw [hb22]; conv => lhs; whnf)
                cases hb24 : y23
                · replace h := ifF h (booF hb24)
                  conv => lhs; whnf
                  obtain rfl := Option.some.inj h
                  show _ = _
                  kernel_rfl
                · replace h := ifT h hb24
                  conv => lhs; whnf
                  rw [wrap_nat i18 (by have := hn_i18; omega)]
                  exact hnx19 _ _ _ _ (fun kk => by kernel_rfl) h
            · clear h
              rintro next_nx19 ⟨⟩ r h
              try dsimp only at h
              have hd_i18 : (decide ((y3.1.length : Int) < (y3.1.length : Int))) = false := decide_eq_false (by omega)
              conv => lhs; whnf
              try rw [len_of (l := y3.1) (r := rFault)]
              rw [hd_i18]
              conv => lhs; whnf
              obtain rfl := Option.some.inj h
              show _ = _
              kernel_rfl
          · replace h := ifT h (bneT hb10)
            conv => lhs; whnf
            obtain rfl := Option.some.inj h
            show _ = _
            kernel_rfl
        · replace h := ifT h (bneT hb9)
          conv => lhs; whnf
          try (rw [hb9]; conv => lhs; whnf)
          try (rw [hb9]; conv => lhs; whnf)
          try (rw [hb9]; conv => lhs; whnf)
          obtain rfl := Option.some.inj h
          show _ = _
          kernel_rfl
      · replace h := ifT h (bneT hb6)
        conv => lhs; whnf
        try (rw [hb6]; conv => lhs; whnf)
        try rw [len_of (l := y3.1) (r := rFault)]
        try (rw [hb6]; conv => lhs; whnf)
        try (rw [hb5]; conv => lhs; whnf)
        try (rw [hb6]; conv => lhs; whnf)
        try (rw [hb5]; conv => lhs; whnf)
        cases hb7 : (decide ((y3.1.length : Int) > 0))
        · replace h := ifF h (decF hb7)
          conv => lhs; whnf
          try (rw [hb6]; conv => lhs; whnf)
          obtain rfl := Option.some.inj h
          show _ = _
          kernel_rfl
        · replace h := ifT h (decT hb7)
          conv => lhs; whnf
          obtain rfl := Option.some.inj h
          show _ = _
          kernel_rfl
    · replace h := ifT h (bneT hb5)
      conv => lhs; whnf
      try (rw [hb5]; conv => lhs; whnf)
      try (rw [hb5]; conv => lhs; whnf)
      try (rw [hb5]; conv => lhs; whnf)
      try (rw [hb5]; conv => lhs; whnf)
      obtain rfl := Option.some.inj h
      show _ = _
      kernel_rfl
  · replace h := ifT h (decT hb1)
    conv => lhs; whnf
    obtain rfl := Option.some.inj h
    show _ = _
    kernel_rfl
theorem amongO_ok {b : Int} {s : Sl00Src} (l : List Int) (hl : 0 < l.length) (hb : 0 ≤ b) (h : SrcOk (b + 2) s) : ∃ r s', p_spec_l00Src_among' s l = some (r, s') ∧ r ∈ l ∧ SrcOk b s' := by
  obtain ⟨r, s1, e1, ⟨b1, b2, b3⟩, o1⟩ := pick_ok (l.length : Int) hb h
  unfold p_spec_l00Src_among'
  have hr : r < (l.length : Int) := by
    rcases Nat.lt_or_ge 1 l.length with h | h
    · exact b2 (by omega)
    · have := b3 (by omega); omega
  rw [e1, callK_some, getK_in b1 hr]
  exact ⟨_, _, rfl, List.getElem_mem _, o1⟩

/-- The next of the line of numbers. -/
def lc (s : Int) : Int := Int.tmod (IntKind.i64.wrap ((IntKind.i64.wrap (48271 * s)) + 11)) 999999937
def ft (g : Geometry) (s : Int) : Fault := ⟨1, Int.tmod (lc s) (IntKind.i64.wrap (g.Dies * g.Blocks)), Int.tmod (lc (lc s)) g.Pages, Int.tmod (lc (lc (lc s))) 728⟩
def sq (s : Int) : Nat → Int
  | 0 => s
  | n + 1 => lc (lc (lc (sq s n)))
def fts (g : Geometry) (s : Int) (n : Nat) : List Fault := (List.range n).map fun i => ft g (sq s i)
theorem fts_s (g : Geometry) (s : Int) (n : Nat) : fts g s (n + 1) = fts g s n ++ [ft g (sq s n)] := by
  unfold fts; rw [List.range_succ, List.map_append]; rfl
theorem lc_in {s : Int} (h : 0 ≤ s ∧ s < 999999937) : 0 ≤ lc s ∧ lc s < 999999937 := by
  unfold lc
  rw [wrap_sm (48271 * s) (by omega) (by omega), wrap_sm _ (by omega) (by omega)]
  exact ⟨Int.tmod_nonneg _ (by omega), Int.tmod_lt_of_pos _ (by omega)⟩
theorem sq_in {s : Int} (h : 0 ≤ s ∧ s < 999999937) : ∀ n, 0 ≤ sq s n ∧ sq s n < 999999937
  | 0 => h
  | n + 1 => lc_in (lc_in (lc_in (sq_in h n)))
def okG (g : Geometry) : Bool := inR g.Dies 2 3 && (inR g.Blocks 4 12 && (g.Pages == 8 || g.Pages == 16))
theorem okG_iff {g : Geometry} : okG g = true ↔ (2 ≤ g.Dies ∧ g.Dies ≤ 3) ∧ (4 ≤ g.Blocks ∧ g.Blocks ≤ 12) ∧ (g.Pages = 8 ∨ g.Pages = 16) := by
  unfold okG
  simp only [Bool.and_eq_true, Bool.or_eq_true, inR_iff, beq_iff_eq]
theorem pl_iG (g : Geometry) : p_impl_ValidGeometry g = some (okG g) := by
  unfold p_impl_ValidGeometry okG
  cases inR g.Dies 2 3 <;> cases inR g.Blocks 4 12 <;> try rfl
  by_cases h : g.Pages = 8
  · simp [h]
  · simp [h]
theorem pl_sG (g : Geometry) : p_spec_ValidGeometry g = some (okG g) := by
  unfold p_spec_ValidGeometry okG
  cases inR g.Dies 2 3 <;> cases inR g.Blocks 4 12 <;> try rfl
  by_cases h : g.Pages = 8
  · simp [h]
  · simp [h]
theorem all_in {g : Geometry} (h : okG g = true) : IntKind.i64.wrap (g.Dies * g.Blocks) = g.Dies * g.Blocks ∧ 8 ≤ g.Dies * g.Blocks ∧ g.Dies * g.Blocks ≤ 36 := by
  obtain ⟨h1, h2, _⟩ := okG_iff.mp h
  have a : 8 ≤ g.Dies * g.Blocks ∧ g.Dies * g.Blocks ≤ 36 := by
    have hd : g.Dies = 2 ∨ g.Dies = 3 := by omega
    rcases hd with e | e <;> rw [e] <;> omega
  exact ⟨wrap_sm _ (by omega) (by omega), a⟩
theorem pl_c1 {m s : Int} (h : m ≠ 0) : p_impl_RandomFaults_c1 m s = some (Int.tmod (lc s) m, lc s) := by
  unfold p_impl_RandomFaults_c1
  rw [grd_pos h]; rfl
theorem pl_all (g : Geometry) : p_impl_Geometry_all g = some (IntKind.i64.wrap (g.Dies * g.Blocks)) := rfl
def sd (n : Int) : Int := if Int.tmod n 999999937 < 0 then IntKind.i64.wrap (Int.tmod n 999999937 + 999999937) else Int.tmod n 999999937
theorem tm_in (n : Int) : -999999937 < Int.tmod n 999999937 ∧ Int.tmod n 999999937 < 999999937 := by
  refine ⟨?_, Int.tmod_lt_of_pos _ (by omega)⟩
  have h := Int.tmod_lt_of_pos (-n) (show (0 : Int) < 999999937 by omega)
  rw [Int.neg_tmod] at h
  omega
theorem sd_in (n : Int) : 0 ≤ sd n ∧ sd n < 999999937 := by
  have h := tm_in n
  unfold sd
  split
  · rw [wrap_sm _ (by omega) (by omega)]; omega
  · omega
theorem sd_sd (n : Int) : sd (Int.tmod n 999999937) = sd n := by
  unfold sd
  rw [show Int.tmod (Int.tmod n 999999937) 999999937 = Int.tmod n 999999937 by simp]
def rfR (g : Geometry) (n k : Int) : List Fault × Int := if okG g = true then if inR k 0 40 = true then (fts g (sd n) k.toNat, 0) else ([], 2) else ([], 1)
theorem pl_i (g : Geometry) (n k : Int) : p_impl_RandomFaults g n k = some (rfR g n k) := by
  unfold p_impl_RandomFaults rfR
  rw [pl_iG, callK_some]
  cases hg : okG g
  · rfl
  rw [if_pos rfl, if_pos rfl]
  cases hk : inR k 0 40
  · rfl
  rw [if_pos rfl, if_pos rfl]
  have hk := inR_iff.mp hk
  obtain ⟨a1, a2, a3⟩ := all_in hg
  have hp : g.Pages ≠ 0 := by have := (okG_iff.mp hg).2.2; omega
  unfold sd
  split
  · rw [grd_pos (by omega)]
    refine forI_rule (fun i (x : Int × List Fault) => x = (sq (IntKind.i64.wrap (Int.tmod n 999999937 + 999999937)) i, fts g (IntKind.i64.wrap (Int.tmod n 999999937 + 999999937)) i)) (fun i hi x hx nx hnx => ?_) (fun x hx => by subst hx; rfl) _ rfl
    subst hx
    dsimp only
    rw [pl_all, callK_some, pl_c1 (by omega), callK_some, pl_c1 hp, callK_some, pl_c1 (by omega), callK_some, grd_pos (appOk_of _ _ (by simp [fts]; omega))]
    exact hnx _ (by rw [fts_s]; rfl)
  · rw [grd_pos (by omega)]
    refine forI_rule (fun i (x : Int × List Fault) => x = (sq (Int.tmod n 999999937) i, fts g (Int.tmod n 999999937) i)) (fun i hi x hx nx hnx => ?_) (fun x hx => by subst hx; rfl) _ rfl
    subst hx
    dsimp only
    rw [pl_all, callK_some, pl_c1 (by omega), callK_some, pl_c1 hp, callK_some, pl_c1 (by omega), callK_some, grd_pos (appOk_of _ _ (by simp [fts]; omega))]
    exact hnx _ (by rw [fts_s]; rfl)
theorem ex_of {x : Option (List Fault × Int)} {e : Int} (h : ∃ r, x = some r ∧ r.2 = e) : ∃ l, x = some (l, e) := by
  obtain ⟨⟨l, e'⟩, h1, rfl⟩ := h
  exact ⟨l, h1⟩
theorem pl_s (g : Geometry) (n k : Int) : ∃ l, p_spec_RandomFaults g n k = some (l, (rfR g n k).2) := by
  unfold p_spec_RandomFaults rfR
  rw [pl_sG, callK_some]
  cases hg : okG g
  · exact ⟨_, rfl⟩
  rw [if_pos rfl, if_pos rfl]
  cases hk : inR k 0 40
  · exact ⟨_, rfl⟩
  rw [if_pos rfl, if_pos rfl]
  have hk := inR_iff.mp hk
  obtain ⟨a1, a2, a3⟩ := all_in hg
  have hp : g.Pages ≠ 0 := by have := (okG_iff.mp hg).2.2; omega
  rw [grd_pos (by omega)]
  refine ex_of ?_
  refine forI_ex (Q := fun r : List Fault × Int => r.2 = 0) (fun i (x : Int × List Fault) => x.2.length = i) (fun i hi x hx nx hnx => ?_) (fun x hx => ⟨(x.2, 0), rfl, rfl⟩) _ rfl
  obtain ⟨v, l⟩ := x
  dsimp only at hx ⊢
  rw [grd_pos (by omega), grd_pos hp, grd_pos (appOk_of _ _ (by omega))]
  exact hnx _ (by simp [hx])
theorem ft_ok {g : Geometry} (hg : okG g = true) {s : Int} (h : 0 ≤ s ∧ s < 999999937) : p_spec_ValidFault g (ft g s) = some true := by
  obtain ⟨a1, a2, a3⟩ := all_in hg
  have hp := (okG_iff.mp hg).2.2
  have l1 := lc_in h
  have l2 := lc_in l1
  have l3 := lc_in l2
  have b1 := Int.tmod_nonneg (g.Dies * g.Blocks) l1.1
  have b2 := Int.tmod_lt_of_pos (lc s) (show 0 < g.Dies * g.Blocks by omega)
  have c1 := Int.tmod_nonneg g.Pages l2.1
  have c2 := Int.tmod_lt_of_pos (lc (lc s)) (show 0 < g.Pages by omega)
  have d1 := Int.tmod_nonneg 728 l3.1
  have d2 := Int.tmod_lt_of_pos (lc (lc (lc s))) (show (0 : Int) < 728 by omega)
  unfold p_spec_ValidFault
  rw [pl_sG, callK_some, hg, if_pos rfl]
  unfold ft
  dsimp only
  rw [if_pos rfl, a1, wrap_sm (g.Dies * g.Blocks - 1) (by omega) (by omega), wrap_sm (g.Pages - 1) (by omega) (by omega), if_pos (inR_iff.mpr (by omega)), if_pos (inR_iff.mpr (by omega)), inR_iff.mpr (by omega)]
theorem geo_ok {b : Int} {s : Sl00Src} (hb : 0 ≤ b) (h : SrcOk (b + 8) s) : ∃ g s', p_spec_l07Geo s = some (g, s') ∧ SrcOk b s' := by
  obtain ⟨r1, s1, e1, _, o1⟩ := pick_ok (b := b + 6) 2 (by omega) (h.le (by omega))
  obtain ⟨r2, s2, e2, _, o2⟩ := pick_ok (b := b + 4) 4 (by omega) (o1.le (by omega))
  obtain ⟨r3, s3, e3, o3⟩ := one_ok (b := b + 2) 20 (by omega) (o2.le (by omega))
  unfold p_spec_l07Geo
  rw [e1, callK_some]
  dsimp only
  rw [e2, callK_some]
  dsimp only
  rw [e3, callK_some]
  dsimp only
  split
  · obtain ⟨r4, s4, e4, _, o4⟩ := amongO_ok (b := b) ([0, 12, 16] : List Int) (by simp) (by omega) o3
    rw [e4, callK_some]
    exact ⟨_, _, rfl, o4⟩
  · exact ⟨_, _, rfl, o3.le (by omega)⟩
theorem draw_ok {code : List Int} (h : ∀ x ∈ code, 0 ≤ x ∧ x ≤ 255) (hl : code.length ≤ 1048576) : ∃ r, p_spec_DrawRandomFaults code = some r := by
  obtain ⟨s0, e0, o0⟩ := from_ok h hl
  obtain ⟨g, s1, e1, o1⟩ := geo_ok (b := 3000) (by omega) (o0.le (by omega))
  obtain ⟨r2, s2, e2, _, o2⟩ := pick_ok (b := 2000) 1000 (by omega) (o1.le (by omega))
  obtain ⟨r3, s3, e3, o3⟩ := one_ok (b := 1000) 4 (by omega) (o2.le (by omega))
  unfold p_spec_DrawRandomFaults
  rw [e0, callK_some, e1, callK_some]
  dsimp only
  rw [e2, callK_some]
  dsimp only
  rw [e3, callK_some]
  dsimp only
  split
  · obtain ⟨r4, s4, e4, _, o4⟩ := amongO_ok (b := 500) ([(-1), 4611686018427387904, (-9223372036854775808), 999999936, 999999937] : List Int) (by simp) (by omega) (o3.le (by omega))
    obtain ⟨r5, s5, e5, _, o5⟩ := amongO_ok (b := 100) ([0, 1, 5, 40, 41, (-1)] : List Int) (by simp) (by omega) (o4.le (by omega))
    rw [e4, callK_some]
    dsimp only
    rw [e5, callK_some]
    exact ⟨_, rfl⟩
  · obtain ⟨r4, s4, e4, _, o4⟩ := amongO_ok (b := 100) ([0, 1, 5, 40, 41, (-1)] : List Int) (by simp) (by omega) (o3.le (by omega))
    rw [e4, callK_some]
    exact ⟨_, rfl⟩
theorem pl_law (code : List Int) (hk : okL u8r code) : p_laws_FnRandomFaults code = some true := by
  unfold p_laws_FnRandomFaults
  by_cases hl : (code.length : Int) > 400
  · rw [if_pos hl]
  rw [if_neg hl]
  obtain ⟨⟨g, n, k⟩, e⟩ := draw_ok hk.2 (by omega)
  obtain ⟨l, es⟩ := pl_s g n k
  rw [e, callK_some]
  dsimp only
  rw [pl_i, callK_some, es, callK_some]
  dsimp only
  rw [if_neg (by simp)]
  by_cases hg : okG g = true
  · by_cases hkk : inR k 0 40 = true
    · have e1 : rfR g n k = (fts g (sd n) k.toNat, 0) := by unfold rfR; rw [if_pos hg, if_pos hkk]
      have e2 : rfR g (Int.tmod n 999999937) 40 = (fts g (sd n) 40, 0) := by unfold rfR; rw [if_pos hg, if_pos (by decide), sd_sd]; rfl
      have hk2 := inR_iff.mp hkk
      have ln : ∀ m, (fts g (sd n) m).length = m := fun m => by simp [fts]
      rw [e1, if_neg (by simp), pl_i, callK_some, e2]
      dsimp only
      rw [ln, ln, if_neg (by omega), if_neg (by omega), grd_pos (by omega)]
      refine forK_rule (fun i _ => True) (fun i hi _ _ nx hnx => ?_) (fun _ _ => rfl) _ trivial
      rw [ln] at hi
      have hi2 : i < (fts g (sd n) 40).length := by rw [ln]; omega
      have g1 : ∀ m (h : i < (fts g (sd n) m).length), (fts g (sd n) m)[i] = ft g (sq (sd n) i) := fun m h => by simp [fts]
      rw [getK_lt hi2, g1, g1, if_pos (by simp), ft_ok hg (sq_in (sd_in n) i), callK_some, if_pos rfl]
      exact hnx _ trivial
    · have e1 : rfR g n k = ([], 2) := by unfold rfR; rw [if_pos hg, if_neg hkk]
      rw [e1, if_pos (by simp), if_neg (by simp)]
  · have e1 : rfR g n k = ([], 1) := by unfold rfR; rw [if_neg hg]
    rw [e1, if_pos (by simp), if_neg (by simp)]
theorem f_law (code : List Int) (hk : okL u8r code) : callL E 10 [.d (.arr (code.map rU))] [] = some (BO true, []) := L_laws_FnRandomFaults code (pl_law code hk)

end Go.Proofs.Ytjbddmmammgmjaa.T18

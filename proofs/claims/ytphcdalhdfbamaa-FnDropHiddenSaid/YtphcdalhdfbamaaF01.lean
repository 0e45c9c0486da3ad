/- FnDropHidden: what its functions come to, and the row; conditions: none. -/
import Derived.Test.YtphcdalhdfbamaaT01
import Derived.Test.YtphcdalhdfbamaaEz
import Derived.Test.YtphcdalhdfbamaaRows
import Derived.WalkKit
import Derived.ProofKit
import Derived.OpenShut
import Derived.ShutString
import Derived.ChangeOld
import Derived.Below
import Derived.SizedLaws
namespace Go.Proofs.Ytphcdalhdfbamaa.T01
open Go.Proofs.YtphcdalhdfbamaaE
set_option maxRecDepth 100000
set_option linter.unusedVariables false
set_option linter.unusedSimpArgs false

noncomputable def p_spec_l00In (a_0 : Int) (a_1 : Int) (a_2 : Int) : Option Bool :=
  if a_0 ≥ a_1 then
    some (decide (a_0 ≤ a_2))
  else
    some false

set_option maxHeartbeats 4000000 in
theorem L_spec_l00In (a_0 : Int) (a_1 : Int) (a_2 : Int) {r : Bool} (h : p_spec_l00In a_0 a_1 a_2 = some r) : callL E 162 [IN a_0, IN a_1, IN a_2] ([] : Fo) = some (BO r, ([] : Fo)) := by
  unfold p_spec_l00In at h
  refine callW (fu := Try.f162) rfl rfl rfl NN ?_
  intro lp cl hlp hcl
  conv => lhs; whnf
  cases hb1 : (decide (a_0 ≥ a_1))
  · replace h := ifF h (decF hb1)
    conv => lhs; whnf
    try (rw [hb1]; conv => lhs; whnf)
    try (rw [hb1]; conv => lhs; whnf)
    try (rw [hb1]; conv => lhs; whnf)
    obtain rfl := Option.some.inj h
    show _ = _
    kernel_rfl
  · replace h := ifT h (decT hb1)
    conv => lhs; whnf
    try (rw [hb1]; conv => lhs; whnf)
    try (rw [hb1]; conv => lhs; whnf)
    try (rw [hb1]; conv => lhs; whnf)
    obtain rfl := Option.some.inj h
    show _ = _
    kernel_rfl
theorem pl_l00In (n lo hi : Int) : p_spec_l00In n lo hi = some (inR n lo hi) := by
  unfold p_spec_l00In inR
  split
  · rename_i h; simp [h]
  · rename_i h; simp [h]


noncomputable def p_impl_within (a_0 : Int) (a_1 : Int) (a_2 : Int) : Option Bool :=
  if a_0 ≥ a_1 then
    some (decide (a_0 ≤ a_2))
  else
    some false

set_option maxHeartbeats 4000000 in
theorem L_impl_within (a_0 : Int) (a_1 : Int) (a_2 : Int) {r : Bool} (h : p_impl_within a_0 a_1 a_2 = some r) : callL E 173 [IN a_0, IN a_1, IN a_2] ([] : Fo) = some (BO r, ([] : Fo)) := by
  unfold p_impl_within at h
  refine callW (fu := Try.f173) rfl rfl rfl NN ?_
  intro lp cl hlp hcl
  conv => lhs; whnf
  cases hb1 : (decide (a_0 ≥ a_1))
  · replace h := ifF h (decF hb1)
    conv => lhs; whnf
    try (rw [hb1]; conv => lhs; whnf)
    try (rw [hb1]; conv => lhs; whnf)
    try (rw [hb1]; conv => lhs; whnf)
    obtain rfl := Option.some.inj h
    show _ = _
    kernel_rfl
  · replace h := ifT h (decT hb1)
    conv => lhs; whnf
    try (rw [hb1]; conv => lhs; whnf)
    try (rw [hb1]; conv => lhs; whnf)
    try (rw [hb1]; conv => lhs; whnf)
    obtain rfl := Option.some.inj h
    show _ = _
    kernel_rfl
theorem pl_within (n lo hi : Int) : p_impl_within n lo hi = some (inR n lo hi) := by
  unfold p_impl_within inR
  split
  · rename_i h; simp [h]
  · rename_i h; simp [h]



structure Sl00Src where
  Code : List Int
  At : Int
  Seed : Int
def rSl00Src (x : Sl00Src) : List D := [.arr (x.Code.map rU), dI x.At, .lit (.int .u64 x.Seed)]
theorem rSl00Src_len : ∀ x, (rSl00Src x).length = 3 := fun _ => rfl

noncomputable def p_spec_l00From (a_0 : List Int) : Option Sl00Src :=
  some (⟨a_0, 0, 0⟩ : Sl00Src)

set_option maxHeartbeats 4000000 in
theorem L_spec_l00From (a_0 : List Int) {r : Sl00Src} (h : p_spec_l00From a_0 = some r) : callL E 81 [.d (.arr (a_0.map rU))] ([] : Fo) = some (.bp 0 0, ([some (.box [.d (.arr (r.Code.map rU)), IN r.At, .d (.lit (.int .u64 r.Seed))])] : Fo)) := by
  unfold p_spec_l00From at h
  refine callW (fu := Try.f81) rfl rfl rfl NN ?_
  intro lp cl hlp hcl
  conv => lhs; whnf
  obtain rfl := Option.some.inj h
  show _ = _
  kernel_rfl

noncomputable def p_spec_l00Src_next (a_0 : Sl00Src) : Option (Int × Sl00Src) :=
  if a_0.At < (a_0.Code.length : Int) then
    getK a_0.Code a_0.At fun x2 =>
    if (IntKind.i64.wrap (a_0.At + 1)) ≤ (a_0.Code.length : Int) then
      some ((IntKind.i64.wrap x2), (⟨a_0.Code, (IntKind.i64.wrap (a_0.At + 1)), (IntKind.u64.wrap ((IntKind.u64.wrap ((IntKind.u64.wrap (a_0.Seed * 6364136223846793005)) + (IntKind.u64.wrap (IntKind.i64.wrap x2)))) + 1442695040888963407))⟩ : Sl00Src))
    else
      some ((IntKind.i64.wrap (andK .u64 (Int.fdiv (IntKind.u64.wrap ((IntKind.u64.wrap ((IntKind.u64.wrap (a_0.Seed * 6364136223846793005)) + (IntKind.u64.wrap (IntKind.i64.wrap x2)))) + 1442695040888963407)) (2 ^ (min (Int.toNat 40) IntKind.u64.bits))) 255)), (⟨a_0.Code, (IntKind.i64.wrap (a_0.At + 1)), (IntKind.u64.wrap ((IntKind.u64.wrap ((IntKind.u64.wrap (a_0.Seed * 6364136223846793005)) + (IntKind.u64.wrap (IntKind.i64.wrap x2)))) + 1442695040888963407))⟩ : Sl00Src))
  else
    if (IntKind.i64.wrap (a_0.At + 1)) ≤ (a_0.Code.length : Int) then
      some (0, (⟨a_0.Code, (IntKind.i64.wrap (a_0.At + 1)), (IntKind.u64.wrap ((IntKind.u64.wrap ((IntKind.u64.wrap (a_0.Seed * 6364136223846793005)) + (IntKind.u64.wrap 0))) + 1442695040888963407))⟩ : Sl00Src))
    else
      some ((IntKind.i64.wrap (andK .u64 (Int.fdiv (IntKind.u64.wrap ((IntKind.u64.wrap ((IntKind.u64.wrap (a_0.Seed * 6364136223846793005)) + (IntKind.u64.wrap 0))) + 1442695040888963407)) (2 ^ (min (Int.toNat 40) IntKind.u64.bits))) 255)), (⟨a_0.Code, (IntKind.i64.wrap (a_0.At + 1)), (IntKind.u64.wrap ((IntKind.u64.wrap ((IntKind.u64.wrap (a_0.Seed * 6364136223846793005)) + (IntKind.u64.wrap 0))) + 1442695040888963407))⟩ : Sl00Src))

set_option maxHeartbeats 4000000 in
theorem L_spec_l00Src_next (a_0 : Sl00Src) {r : (Int × Sl00Src)} (h : p_spec_l00Src_next a_0 = some r) : callL E 204 [.bp 0 0] ([some (.box [.d (.arr (a_0.Code.map rU)), IN a_0.At, .d (.lit (.int .u64 a_0.Seed))])] : Fo) = some (IN r.1, ([some (.box [.d (.arr (r.2.Code.map rU)), IN r.2.At, .d (.lit (.int .u64 r.2.Seed))])] : Fo)) := by
  unfold p_spec_l00Src_next at h
  refine callW (fu := Try.f204) rfl rfl rfl NN ?_
  intro lp cl hlp hcl
  conv => lhs; whnf
  try rw [len_of (l := a_0.Code) (r := rU)]
  cases hb1 : (decide (a_0.At < (a_0.Code.length : Int)))
  · replace h := ifF h (decF hb1)
    conv => lhs; whnf
    try rw [len_of (l := a_0.Code) (r := rU)]
    cases hb4 : (decide ((IntKind.i64.wrap (a_0.At + 1)) ≤ (a_0.Code.length : Int)))
    · replace h := ifF h (decF hb4)
      conv => lhs; whnf
      obtain rfl := Option.some.inj h
      show _ = _
      kernel_rfl
    · replace h := ifT h (decT hb4)
      conv => lhs; whnf
      obtain rfl := Option.some.inj h
      show _ = _
      kernel_rfl
  · replace h := ifT h (decT hb1)
    conv => lhs; whnf
    obtain ⟨x2, hq_x2, hx_x2', h⟩ := getK_inv h
    have hx_x2 := get_of (r := rU) hx_x2'
    try (rw [decide_eq_true hq_x2]; conv => lhs; whnf)
    rw [hx_x2]
    conv => lhs; whnf
    rw [hx_x2]
    conv => lhs; whnf
    try rw [len_of (l := a_0.Code) (r := rU)]
    cases hb3 : (decide ((IntKind.i64.wrap (a_0.At + 1)) ≤ (a_0.Code.length : Int)))
    · replace h := ifF h (decF hb3)
      conv => lhs; whnf
      obtain rfl := Option.some.inj h
      show _ = _
      kernel_rfl
    · replace h := ifT h (decT hb3)
      conv => lhs; whnf
      obtain rfl := Option.some.inj h
      show _ = _
      kernel_rfl

noncomputable def p_spec_l00Src_pick (a_0 : Int) (a_1 : Sl00Src) : Option (Int × Sl00Src) :=
  if a_0 ≤ 1 then
    some (0, a_1)
  else
    callK (p_spec_l00Src_next a_1) fun y2 =>
    if a_0 > 200 then
      callK (p_spec_l00Src_next y2.2) fun y4 =>
      grd (a_0 ≠ 0) <|
      some ((Int.tmod (IntKind.i64.wrap ((IntKind.i64.wrap (y2.1 * 256)) + y4.1)) a_0), y4.2)
    else
      grd (a_0 ≠ 0) <|
      some ((Int.tmod y2.1 a_0), y2.2)

set_option maxHeartbeats 4000000 in
theorem L_spec_l00Src_pick (a_0 : Int) (a_1 : Sl00Src) {r : (Int × Sl00Src)} (h : p_spec_l00Src_pick a_0 a_1 = some r) : callL E 126 [.bp 0 0, IN a_0] ([some (.box [.d (.arr (a_1.Code.map rU)), IN a_1.At, .d (.lit (.int .u64 a_1.Seed))])] : Fo) = some (IN r.1, ([some (.box [.d (.arr (r.2.Code.map rU)), IN r.2.At, .d (.lit (.int .u64 r.2.Seed))])] : Fo)) := by
  unfold p_spec_l00Src_pick at h
  refine callW (fu := Try.f126) rfl rfl rfl NN ?_
  intro lp cl hlp hcl
  conv => lhs; whnf
  cases hb1 : (decide (a_0 ≤ 1))
  · replace h := ifF h (decF hb1)
    conv => lhs; whnf
    obtain ⟨y2, h_y2, h⟩ := callK_inv h
    rw [cl_eq hcl (L_spec_l00Src_next a_1 h_y2)]
    rotate_left
    · show _ = _
      kernel_rfl
    · show _ = _
      kernel_rfl
    conv => lhs; whnf
    cases hb3 : (decide (a_0 > 200))
    · replace h := ifF h (decF hb3)
      conv => lhs; whnf
      obtain ⟨hg5, h⟩ := grd_inv h
      rw [rem_run _ _ _ _ hg5]
      conv => lhs; whnf
      obtain rfl := Option.some.inj h
      show _ = _
      kernel_rfl
    · replace h := ifT h (decT hb3)
      conv => lhs; whnf
      obtain ⟨y4, h_y4, h⟩ := callK_inv h
      rw [cl_eq hcl (L_spec_l00Src_next y2.2 h_y4)]
      rotate_left
      · show _ = _
        kernel_rfl
      · show _ = _
        kernel_rfl
      conv => lhs; whnf
      obtain ⟨hg6, h⟩ := grd_inv h
      rw [rem_run _ _ _ _ hg6]
      conv => lhs; whnf
      obtain rfl := Option.some.inj h
      show _ = _
      kernel_rfl
  · replace h := ifT h (decT hb1)
    conv => lhs; whnf
    obtain rfl := Option.some.inj h
    show _ = _
    kernel_rfl
/-- A source of choices from which as many may still be drawn. -/
structure SrcOk (b : Int) (s : Sl00Src) : Prop where
  code : ∀ x ∈ s.Code, 0 ≤ x ∧ x ≤ 255
  len : s.Code.length ≤ 1048576
  lo : 0 ≤ s.At
  hi : s.At + b ≤ 4611686018427387904
theorem SrcOk.le {b c : Int} {s : Sl00Src} (h : SrcOk b s) (hc : c ≤ b) : SrcOk c s := ⟨h.1, h.2, h.3, by have := h.4; omega⟩
theorem nxV_in (sd : Int) : 0 ≤ IntKind.i64.wrap (andK .u64 sd 255) ∧ IntKind.i64.wrap (andK .u64 sd 255) ≤ 255 := by
  unfold andK
  generalize BitVec.ofInt IntKind.u64.bits sd = a
  have h1 : (a &&& BitVec.ofInt IntKind.u64.bits 255).toNat ≤ 255 := by
    rw [BitVec.toNat_and]
    exact Nat.le_trans Nat.and_le_right (by decide)
  generalize (a &&& BitVec.ofInt IntKind.u64.bits 255).toNat = m at h1
  have e1 : IntKind.u64.wrap (m : Int) = m := by unfold IntKind.wrap; simp [IntKind.signed, IntKind.bits]; omega
  rw [e1, wrap_sm _ (by omega) (by omega)]
  omega
theorem next_ok {b : Int} {s : Sl00Src} (hb : 0 ≤ b) (h : SrcOk (b + 1) s) : ∃ v s', p_spec_l00Src_next s = some (v, s') ∧ (0 ≤ v ∧ v ≤ 255) ∧ SrcOk b s' := by
  obtain ⟨h1, h2, h3, h4⟩ := h
  have hw : IntKind.i64.wrap (s.At + 1) = s.At + 1 := wrap_sm _ (by omega) (by omega)
  unfold p_spec_l00Src_next
  rw [hw]
  split
  · rename_i hlt
    rw [getK_in h3 hlt]
    have hb := h1 _ (List.getElem_mem (show s.At.toNat < s.Code.length by omega))
    rw [if_pos (by omega)]
    exact ⟨_, _, rfl, by rw [wrap_sm _ (by omega) (by omega)]; exact hb, h1, h2, by show 0 ≤ s.At + 1; omega, by show s.At + 1 + b ≤ _; omega⟩
  · rename_i hlt
    rw [if_neg (by omega)]
    exact ⟨_, _, rfl, nxV_in _, h1, h2, by show 0 ≤ s.At + 1; omega, by show s.At + 1 + b ≤ _; omega⟩
theorem pick_ok {b : Int} {s : Sl00Src} (m : Int) (hb : 0 ≤ b) (h : SrcOk (b + 2) s) : ∃ r s', p_spec_l00Src_pick m s = some (r, s') ∧ (0 ≤ r ∧ (1 < m → r < m) ∧ (m ≤ 1 → r = 0)) ∧ SrcOk b s' := by
  unfold p_spec_l00Src_pick
  split
  · rename_i hm
    exact ⟨0, s, rfl, ⟨by omega, fun h => by omega, fun _ => rfl⟩, h.le (by omega)⟩
  · rename_i hm
    obtain ⟨v1, s1, e1, b1, o1⟩ := next_ok (b := b + 1) (by omega) (h.le (by omega))
    rw [e1, callK_some]
    split
    · obtain ⟨v2, s2, e2, b2, o2⟩ := next_ok hb o1
      rw [e2, callK_some, grd_pos (by omega)]
      have w1 : IntKind.i64.wrap (v1 * 256) = v1 * 256 := wrap_sm _ (by omega) (by omega)
      have w2 : IntKind.i64.wrap (v1 * 256 + v2) = v1 * 256 + v2 := wrap_sm _ (by omega) (by omega)
      refine ⟨_, _, rfl, ?_, o2⟩
      show 0 ≤ Int.tmod (IntKind.i64.wrap (IntKind.i64.wrap (v1 * 256) + v2)) m ∧ _
      rw [w1, w2]
      exact ⟨Int.tmod_nonneg _ (by omega), fun _ => Int.tmod_lt_of_pos _ (by omega), fun h3 => by omega⟩
    · rw [grd_pos (by omega)]
      exact ⟨_, _, rfl, ⟨Int.tmod_nonneg _ b1.1, fun _ => Int.tmod_lt_of_pos _ (by omega), fun h3 => by omega⟩, o1.le (by omega)⟩
theorem from_ok {code : List Int} (h : ∀ x ∈ code, 0 ≤ x ∧ x ≤ 255) (hl : code.length ≤ 1048576) : ∃ s, p_spec_l00From code = some s ∧ SrcOk 1099511627776 s :=
  ⟨_, rfl, h, hl, by show (0 : Int) ≤ 0; omega, by show (0 : Int) + 1099511627776 ≤ _; omega⟩

def cmpB (a b : ByteArray) : Int := Lib.compareBytes a.data.toList b.data.toList
theorem f_Compare (a b : ByteArray) : callL E 200 [ST a, ST b] [] = some (IN (cmpB a b), []) := callX rfl rfl

noncomputable def p_spec_l00Src_among (a_0 : List Int) (a_1 : Sl00Src) : Option (Int × Sl00Src) :=
  callK (p_spec_l00Src_pick (a_0.length : Int) a_1) fun y1 =>
  getK a_0 y1.1 fun x2 =>
  some (x2, y1.2)

set_option maxHeartbeats 4000000 in
theorem L_spec_l00Src_among (a_0 : List Int) (a_1 : Sl00Src) {r : (Int × Sl00Src)} (h : p_spec_l00Src_among a_0 a_1 = some r) : callL E 161 [.bp 0 0, .d (.arr (a_0.map rI))] ([some (.box [.d (.arr (a_1.Code.map rU)), IN a_1.At, .d (.lit (.int .u64 a_1.Seed))])] : Fo) = some (IN r.1, ([some (.box [.d (.arr (r.2.Code.map rU)), IN r.2.At, .d (.lit (.int .u64 r.2.Seed))])] : Fo)) := by
  unfold p_spec_l00Src_among at h
  refine callW (fu := Try.f161) rfl rfl rfl NN ?_
  intro lp cl hlp hcl
  conv => lhs; whnf
  try rw [len_of (l := a_0) (r := rI)]
  obtain ⟨y1, h_y1, h⟩ := callK_inv h
  rw [cl_eq hcl (L_spec_l00Src_pick (a_0.length : Int) a_1 h_y1)]
  rotate_left
  · show _ = _
    kernel_rfl
  · show _ = _
    kernel_rfl
  conv => lhs; whnf
  obtain ⟨x2, hq_x2, hx_x2', h⟩ := getK_inv h
  have hx_x2 := get_of (r := rI) hx_x2'
  try (rw [decide_eq_true hq_x2]; conv => lhs; whnf)
  rw [hx_x2]
  conv => lhs; whnf
  rw [hx_x2]
  conv => lhs; whnf
  obtain rfl := Option.some.inj h
  show _ = _
  kernel_rfl
theorem among_ok {b : Int} {s : Sl00Src} (l : List Int) (hl : 0 < l.length) (hb : 0 ≤ b) (h : SrcOk (b + 2) s) : ∃ r s', p_spec_l00Src_among l s = some (r, s') ∧ r ∈ l ∧ SrcOk b s' := by
  obtain ⟨r, s1, e1, ⟨b1, b2, b3⟩, o1⟩ := pick_ok (l.length : Int) hb h
  unfold p_spec_l00Src_among
  have hr : r < (l.length : Int) := by
    rcases Nat.lt_or_ge 1 l.length with h | h
    · exact b2 (by omega)
    · have := b3 (by omega); omega
  rw [e1, callK_some, getK_in b1 hr]
  exact ⟨_, _, rfl, List.getElem_mem _, o1⟩

noncomputable def p_spec_l00Src_one (a_0 : Int) (a_1 : Sl00Src) : Option (Bool × Sl00Src) :=
  callK (p_spec_l00Src_pick a_0 a_1) fun y1 =>
  some ((y1.1 == 0), y1.2)

set_option maxHeartbeats 4000000 in
theorem L_spec_l00Src_one (a_0 : Int) (a_1 : Sl00Src) {r : (Bool × Sl00Src)} (h : p_spec_l00Src_one a_0 a_1 = some r) : callL E 90 [.bp 0 0, IN a_0] ([some (.box [.d (.arr (a_1.Code.map rU)), IN a_1.At, .d (.lit (.int .u64 a_1.Seed))])] : Fo) = some (BO r.1, ([some (.box [.d (.arr (r.2.Code.map rU)), IN r.2.At, .d (.lit (.int .u64 r.2.Seed))])] : Fo)) := by
  unfold p_spec_l00Src_one at h
  refine callW (fu := Try.f90) rfl rfl rfl NN ?_
  intro lp cl hlp hcl
  conv => lhs; whnf
  obtain ⟨y1, h_y1, h⟩ := callK_inv h
  rw [cl_eq hcl (L_spec_l00Src_pick a_0 a_1 h_y1)]
  rotate_left
  · show _ = _
    kernel_rfl
  · show _ = _
    kernel_rfl
  conv => lhs; whnf
  obtain rfl := Option.some.inj h
  show _ = _
  kernel_rfl
theorem one_ok {b : Int} {s : Sl00Src} (m : Int) (hb : 0 ≤ b) (h : SrcOk (b + 2) s) : ∃ r s', p_spec_l00Src_one m s = some (r, s') ∧ SrcOk b s' := by
  obtain ⟨r, s1, e1, _, o1⟩ := pick_ok m hb h
  unfold p_spec_l00Src_one
  rw [e1, callK_some]
  exact ⟨_, _, rfl, o1⟩

noncomputable def p_spec_l00Src_text (a_0 : List ByteArray) (a_1 : Sl00Src) : Option (ByteArray × Sl00Src) :=
  callK (p_spec_l00Src_pick (a_0.length : Int) a_1) fun y1 =>
  getK a_0 y1.1 fun x2 =>
  some (x2, y1.2)

set_option maxHeartbeats 4000000 in
theorem L_spec_l00Src_text (a_0 : List ByteArray) (a_1 : Sl00Src) {r : (ByteArray × Sl00Src)} (h : p_spec_l00Src_text a_0 a_1 = some r) : callL E 176 [.bp 0 0, .d (.arr (a_0.map rS))] ([some (.box [.d (.arr (a_1.Code.map rU)), IN a_1.At, .d (.lit (.int .u64 a_1.Seed))])] : Fo) = some (ST r.1, ([some (.box [.d (.arr (r.2.Code.map rU)), IN r.2.At, .d (.lit (.int .u64 r.2.Seed))])] : Fo)) := by
  unfold p_spec_l00Src_text at h
  refine callW (fu := Try.f176) rfl rfl rfl NN ?_
  intro lp cl hlp hcl
  conv => lhs; whnf
  try rw [len_of (l := a_0) (r := rS)]
  obtain ⟨y1, h_y1, h⟩ := callK_inv h
  rw [cl_eq hcl (L_spec_l00Src_pick (a_0.length : Int) a_1 h_y1)]
  rotate_left
  · show _ = _
    kernel_rfl
  · show _ = _
    kernel_rfl
  conv => lhs; whnf
  obtain ⟨x2, hq_x2, hx_x2', h⟩ := getK_inv h
  have hx_x2 := get_of (r := rS) hx_x2'
  try (rw [decide_eq_true hq_x2]; conv => lhs; whnf)
  rw [hx_x2]
  conv => lhs; whnf
  rw [hx_x2]
  conv => lhs; whnf
  obtain rfl := Option.some.inj h
  show _ = _
  kernel_rfl

noncomputable def p_spec_l17DrawKey (a_0 : Sl00Src) : Option (ByteArray × Sl00Src) :=
  callK (p_spec_l00Src_text ([(⟨#[97]⟩ : ByteArray), (⟨#[98]⟩ : ByteArray), (⟨#[99]⟩ : ByteArray), (⟨#[100]⟩ : ByteArray), (⟨#[101]⟩ : ByteArray), (⟨#[97, 98]⟩ : ByteArray), (⟨#[98, 49]⟩ : ByteArray), (⟨#[107, 101, 121, 56, 98, 121, 116, 101]⟩ : ByteArray), (⟨#[0]⟩ : ByteArray), (⟨#[255, 255]⟩ : ByteArray)] : List ByteArray) a_0) fun y1 =>
  some (y1.1, y1.2)

set_option maxHeartbeats 4000000 in
theorem L_spec_l17DrawKey (a_0 : Sl00Src) {r : (ByteArray × Sl00Src)} (h : p_spec_l17DrawKey a_0 = some r) : callL E 99 [.bp 0 0] ([some (.box [.d (.arr (a_0.Code.map rU)), IN a_0.At, .d (.lit (.int .u64 a_0.Seed))])] : Fo) = some (ST r.1, ([some (.box [.d (.arr (r.2.Code.map rU)), IN r.2.At, .d (.lit (.int .u64 r.2.Seed))])] : Fo)) := by
  unfold p_spec_l17DrawKey at h
  refine callW (fu := Try.f99) rfl rfl rfl NN ?_
  intro lp cl hlp hcl
  conv => lhs; whnf
  obtain ⟨y1, h_y1, h⟩ := callK_inv h
  rw [cl_eq hcl (L_spec_l00Src_text ([(⟨#[97]⟩ : ByteArray), (⟨#[98]⟩ : ByteArray), (⟨#[99]⟩ : ByteArray), (⟨#[100]⟩ : ByteArray), (⟨#[101]⟩ : ByteArray), (⟨#[97, 98]⟩ : ByteArray), (⟨#[98, 49]⟩ : ByteArray), (⟨#[107, 101, 121, 56, 98, 121, 116, 101]⟩ : ByteArray), (⟨#[0]⟩ : ByteArray), (⟨#[255, 255]⟩ : ByteArray)] : List ByteArray) a_0 h_y1)]
  rotate_left
  · show _ = _
    kernel_rfl
  · show _ = _
    kernel_rfl
  conv => lhs; whnf
  obtain rfl := Option.some.inj h
  show _ = _
  kernel_rfl

noncomputable def p_spec_l17Draw (a_0 : Int) (a_1 : Sl00Src) : Option (Record × Sl00Src) :=
  callK (p_spec_l17DrawKey a_1) fun y1 =>
  callK (p_spec_l00Src_among ([1, 1, 1, 2, 3] : List Int) y1.2) fun y2 =>
  if y2.1 = 1 then
    callK (p_spec_l00Src_text ([(⟨#[]⟩ : ByteArray), (⟨#[49]⟩ : ByteArray), (⟨#[116, 119, 111]⟩ : ByteArray), (⟨#[115, 105, 120, 116, 101, 101, 110, 32, 98, 121, 116, 101, 115, 32, 111, 107]⟩ : ByteArray), (⟨#[0]⟩ : ByteArray)] : List ByteArray) y2.2) fun y4 =>
    some ((⟨y1.1, a_0, y2.1, y4.1, (⟨#[]⟩ : ByteArray)⟩ : Record), y4.2)
  else
    if y2.1 = 3 then
      callK (p_spec_l00Src_text ([(⟨#[97]⟩ : ByteArray), (⟨#[98]⟩ : ByteArray), (⟨#[97, 98]⟩ : ByteArray), (⟨#[99]⟩ : ByteArray)] : List ByteArray) y2.2) fun y6 =>
      callK (p_spec_l00Src_text ([(⟨#[100]⟩ : ByteArray), (⟨#[101]⟩ : ByteArray), (⟨#[98, 49, 0]⟩ : ByteArray), (⟨#[255]⟩ : ByteArray)] : List ByteArray) y6.2) fun y7 =>
      if (Op.bytesLess y6.1.toList y7.1.toList) = true then
        some ((⟨y6.1, a_0, y2.1, (⟨#[]⟩ : ByteArray), y7.1⟩ : Record), y7.2)
      else
        some ((⟨y6.1, a_0, y2.1, (⟨#[]⟩ : ByteArray), (⟨#[255]⟩ : ByteArray)⟩ : Record), y7.2)
    else
      some ((⟨y1.1, a_0, y2.1, (⟨#[]⟩ : ByteArray), (⟨#[]⟩ : ByteArray)⟩ : Record), y2.2)

set_option maxHeartbeats 4000000 in
theorem L_spec_l17Draw (a_0 : Int) (a_1 : Sl00Src) {r : (Record × Sl00Src)} (h : p_spec_l17Draw a_0 a_1 = some r) : callL E 127 [.bp 0 0, IN a_0] ([some (.box [.d (.arr (a_1.Code.map rU)), IN a_1.At, .d (.lit (.int .u64 a_1.Seed))])] : Fo) = some (.agg [ST r.1.Key, IN r.1.Seq, IN r.1.Kind, ST r.1.Value, ST r.1.End], ([some (.box [.d (.arr (r.2.Code.map rU)), IN r.2.At, .d (.lit (.int .u64 r.2.Seed))])] : Fo)) := by
  unfold p_spec_l17Draw at h
  refine callW (fu := Try.f127) rfl rfl rfl NN ?_
  intro lp cl hlp hcl
  conv => lhs; whnf
  obtain ⟨y1, h_y1, h⟩ := callK_inv h
  rw [cl_eq hcl (L_spec_l17DrawKey a_1 h_y1)]
  rotate_left
  · show _ = _
    kernel_rfl
  · show _ = _
    kernel_rfl
  conv => lhs; whnf
  obtain ⟨y2, h_y2, h⟩ := callK_inv h
  rw [cl_eq hcl (L_spec_l00Src_among ([1, 1, 1, 2, 3] : List Int) y1.2 h_y2)]
  rotate_left
  · show _ = _
    kernel_rfl
  · show _ = _
    kernel_rfl
  conv => lhs; whnf
  cases hb3 : (y2.1 == 1)
  · replace h := ifF h (beqF hb3)
    conv => lhs; whnf
    cases hb5 : (y2.1 == 3)
    · replace h := ifF h (beqF hb5)
      conv => lhs; whnf
      obtain rfl := Option.some.inj h
      show _ = _
      kernel_rfl
    · replace h := ifT h (beqT hb5)
      conv => lhs; whnf
      obtain ⟨y6, h_y6, h⟩ := callK_inv h
      rw [cl_eq hcl (L_spec_l00Src_text ([(⟨#[97]⟩ : ByteArray), (⟨#[98]⟩ : ByteArray), (⟨#[97, 98]⟩ : ByteArray), (⟨#[99]⟩ : ByteArray)] : List ByteArray) y2.2 h_y6)]
      rotate_left
      · show _ = _
        kernel_rfl
      · show _ = _
        kernel_rfl
      conv => lhs; whnf
      obtain ⟨y7, h_y7, h⟩ := callK_inv h
      rw [cl_eq hcl (L_spec_l00Src_text ([(⟨#[100]⟩ : ByteArray), (⟨#[101]⟩ : ByteArray), (⟨#[98, 49, 0]⟩ : ByteArray), (⟨#[255]⟩ : ByteArray)] : List ByteArray) y6.2 h_y7)]
      rotate_left
      · show _ = _
        kernel_rfl
      · show _ = _
        kernel_rfl
      conv => lhs; whnf
      cases hb8 : (Op.bytesLess y6.1.toList y7.1.toList)
      · replace h := ifF h (booF hb8)
        conv => lhs; whnf
        obtain rfl := Option.some.inj h
        show _ = _
        kernel_rfl
      · replace h := ifT h hb8
        conv => lhs; whnf
        obtain rfl := Option.some.inj h
        show _ = _
        kernel_rfl
  · replace h := ifT h (beqT hb3)
    conv => lhs; whnf
    obtain ⟨y4, h_y4, h⟩ := callK_inv h
    rw [cl_eq hcl (L_spec_l00Src_text ([(⟨#[]⟩ : ByteArray), (⟨#[49]⟩ : ByteArray), (⟨#[116, 119, 111]⟩ : ByteArray), (⟨#[115, 105, 120, 116, 101, 101, 110, 32, 98, 121, 116, 101, 115, 32, 111, 107]⟩ : ByteArray), (⟨#[0]⟩ : ByteArray)] : List ByteArray) y2.2 h_y4)]
    rotate_left
    · show _ = _
      kernel_rfl
    · show _ = _
      kernel_rfl
    conv => lhs; whnf
    obtain rfl := Option.some.inj h
    show _ = _
    kernel_rfl

noncomputable def p_spec_l17Less (a_0 : Record) (a_1 : Record) : Option Bool :=
  if (a_0.Key.toList == a_1.Key.toList) = true then
    if ¬ a_0.Seq = a_1.Seq then
      some (decide (a_0.Seq > a_1.Seq))
    else
      if ¬ a_0.Kind = a_1.Kind then
        some (decide (a_0.Kind < a_1.Kind))
      else
        if (a_0.Value.toList == a_1.Value.toList) = true then
          some (Op.bytesLess a_0.End.toList a_1.End.toList)
        else
          some (Op.bytesLess a_0.Value.toList a_1.Value.toList)
  else
    some (Op.bytesLess a_0.Key.toList a_1.Key.toList)

set_option maxHeartbeats 4000000 in
theorem L_spec_l17Less (a_0 : Record) (a_1 : Record) {r : Bool} (h : p_spec_l17Less a_0 a_1 = some r) : callL E 134 [.agg [ST a_0.Key, IN a_0.Seq, IN a_0.Kind, ST a_0.Value, ST a_0.End], .agg [ST a_1.Key, IN a_1.Seq, IN a_1.Kind, ST a_1.Value, ST a_1.End]] ([] : Fo) = some (BO r, ([] : Fo)) := by
  unfold p_spec_l17Less at h
  refine callW (fu := Try.f134) rfl rfl rfl NN ?_
  intro lp cl hlp hcl
  conv => lhs; whnf
  cases hb1 : (a_0.Key.toList == a_1.Key.toList)
  · replace h := ifF h (booF hb1)
    conv => lhs; whnf
    obtain rfl := Option.some.inj h
    show _ = _
    kernel_rfl
  · replace h := ifT h hb1
    conv => lhs; whnf
    cases hb2 : (a_0.Seq != a_1.Seq)
    · replace h := ifF h ((fun h => not_not_intro (bneF h)) hb2)
      conv => lhs; whnf
      cases hb3 : (a_0.Kind != a_1.Kind)
      · replace h := ifF h ((fun h => not_not_intro (bneF h)) hb3)
        conv => lhs; whnf
        cases hb4 : (a_0.Value.toList == a_1.Value.toList)
        · replace h := ifF h (booF hb4)
          conv => lhs; whnf
          obtain rfl := Option.some.inj h
          show _ = _
          kernel_rfl
        · replace h := ifT h hb4
          conv => lhs; whnf
          obtain rfl := Option.some.inj h
          show _ = _
          kernel_rfl
      · replace h := ifT h (bneT hb3)
        conv => lhs; whnf
        obtain rfl := Option.some.inj h
        show _ = _
        kernel_rfl
    · replace h := ifT h (bneT hb2)
      conv => lhs; whnf
      obtain rfl := Option.some.inj h
      show _ = _
      kernel_rfl

noncomputable def p_spec_l17Into (a_0 : List Record) (a_1 : Record) : Option (List Record) :=
  grd (a_0.length < 4611686018427387904) <|
  forK a_0 (fun (i6 : Nat) x8 (_ : Unit) (nx7 : Unit → Option _) =>
    callK (p_spec_l17Less x8 a_1) fun y9 =>
    if y9 = true then
      nx7 ()
    else
      if ((x8.Key.toList == a_1.Key.toList) && ((x8.Seq == a_1.Seq) && ((x8.Kind == a_1.Kind) && ((x8.Value.toList == a_1.Value.toList) && ((x8.End.toList == a_1.End.toList) && true))))) = true then
        some a_0
      else
        grd (0 ≤ 0 ∧ 0 ≤ (i6 : Int) ∧ (i6 : Int) ≤ (a_0.length : Int)) <|
        grd (appOk (0 + ((a_0.drop (Int.toNat 0)).take (Int.toNat (i6 : Int) - Int.toNat 0)).length) 64 = true) <|
        grd (appOk (((a_0.drop (Int.toNat 0)).take (Int.toNat (i6 : Int) - Int.toNat 0)).length + 1) 64 = true) <|
        grd (0 ≤ (i6 : Int) ∧ (i6 : Int) ≤ (a_0.length : Int) ∧ (a_0.length : Int) ≤ (a_0.length : Int)) <|
        grd (appOk ((((a_0.drop (Int.toNat 0)).take (Int.toNat (i6 : Int) - Int.toNat 0)) ++ ([a_1] : List Record)).length + ((a_0.drop (Int.toNat (i6 : Int))).take (Int.toNat (a_0.length : Int) - Int.toNat (i6 : Int))).length) 64 = true) <|
        some ((((a_0.drop (Int.toNat 0)).take (Int.toNat (i6 : Int) - Int.toNat 0)) ++ ([a_1] : List Record)) ++ ((a_0.drop (Int.toNat (i6 : Int))).take (Int.toNat (a_0.length : Int) - Int.toNat (i6 : Int))))) () (fun (_ : Unit) =>
    grd (0 ≤ 0 ∧ 0 ≤ (a_0.length : Int) ∧ (a_0.length : Int) ≤ (a_0.length : Int)) <|
    grd (appOk (0 + ((a_0.drop (Int.toNat 0)).take (Int.toNat (a_0.length : Int) - Int.toNat 0)).length) 64 = true) <|
    grd (appOk (((a_0.drop (Int.toNat 0)).take (Int.toNat (a_0.length : Int) - Int.toNat 0)).length + 1) 64 = true) <|
    grd (0 ≤ (a_0.length : Int) ∧ (a_0.length : Int) ≤ (a_0.length : Int) ∧ (a_0.length : Int) ≤ (a_0.length : Int)) <|
    grd (appOk ((((a_0.drop (Int.toNat 0)).take (Int.toNat (a_0.length : Int) - Int.toNat 0)) ++ ([a_1] : List Record)).length + ((a_0.drop (Int.toNat (a_0.length : Int))).take (Int.toNat (a_0.length : Int) - Int.toNat (a_0.length : Int))).length) 64 = true) <|
    some ((((a_0.drop (Int.toNat 0)).take (Int.toNat (a_0.length : Int) - Int.toNat 0)) ++ ([a_1] : List Record)) ++ ((a_0.drop (Int.toNat (a_0.length : Int))).take (Int.toNat (a_0.length : Int) - Int.toNat (a_0.length : Int)))))

set_option maxHeartbeats 4000000 in
theorem L_spec_l17Into (a_0 : List Record) (a_1 : Record) {r : (List Record)} (h : p_spec_l17Into a_0 a_1 = some r) : callL E 160 [.d (.arr (a_0.map rRecord)), .agg [ST a_1.Key, IN a_1.Seq, IN a_1.Kind, ST a_1.Value, ST a_1.End]] ([] : Fo) = some (.d (.arr (r.map rRecord)), ([] : Fo)) := by
  unfold p_spec_l17Into at h
  refine callW (fu := Try.f160) rfl rfl rfl NN ?_
  intro lp cl hlp hcl
  conv => lhs; whnf
  obtain ⟨hl_i6, h⟩ := grd_inv h
  refine loop_for hlp (l := a_0) hl_i6 (fun (i6 : Nat) (_ : Unit) => ([.d (.arr (a_0.map rRecord)), .dead, .dead, .bp 0 0, .dead, IN (i6 : Int)] ++ List.replicate 42 .dead : List V)) (fun (i6 : Nat) (_ : Unit) => ([some (.box [ST a_1.Key, IN a_1.Seq, IN a_1.Kind, ST a_1.Value, ST a_1.End])] : Fo)) (fun (r : (List Record)) => ((.d (.arr (r.map rRecord)) : V), ([] : Fo))) ?_ ?_ () _ (fun kk => by kernel_rfl) h
  · clear h
    rintro next_nx7 nx7 i6 hi_i6 hnx7 ⟨⟩ r h
    try dsimp only at h
    have hn_i6 : i6 < 4611686018427387904 := by omega
    have hx_x8 := get_map rRecord a_0 i6 hi_i6
    generalize a_0[i6] = x8 at h hx_x8
    have hd_i6 : (decide ((i6 : Int) < (a_0.length : Int))) = true := decide_eq_true (by omega)
    conv => lhs; whnf
    try rw [len_of (l := a_0) (r := rRecord)]
    rw [hd_i6]
    conv => lhs; whnf
    try (rw [hd_i6]; conv => lhs; whnf)
    try (rw [hd_i6]; conv => lhs; whnf)
    try (rw [decide_eq_true hq_x8]; conv => lhs; whnf)
    rw [hx_x8]
    conv => lhs; whnf
    try (rw [hd_i6]; conv => lhs; whnf)
    rw [hx_x8]
    conv => lhs; whnf
    try (rw [hd_i6]; conv => lhs; whnf)
    try (rw [hd_i6]; conv => lhs; whnf)
    obtain ⟨y9, h_y9, h⟩ := callK_inv h
    rw [cl_eq hcl (L_spec_l17Less x8 a_1 h_y9)]
    rotate_left
    · show _ = _
      kernel_rfl
    · show _ = _
      kernel_rfl
    conv => lhs; whnf
    try (rw [hd_i6]; conv => lhs; whnf)
    cases hb10 : y9
    · replace h := ifF h (booF hb10)
      conv => lhs; whnf
      try rw [len_of (l := a_0) (r := rRecord)]
      try (rw [hd_i6]; conv => lhs; whnf)
      try (rw [hd_i6]; conv => lhs; whnf)
      try (rw [hd_i6]; conv => lhs; whnf)
      try (rw [decide_eq_true hq_x8]; conv => lhs; whnf)
      rw [hx_x8]
      conv => lhs; whnf
      try (rw [hd_i6]; conv => lhs; whnf)
      rw [hx_x8]
      conv => lhs; whnf
      try (rw [hd_i6]; conv => lhs; whnf)
      try (rw [hd_i6]; conv => lhs; whnf)
      try (rw [hd_i6]; conv => lhs; whnf)
      cases hb11 : ((x8.Key.toList == a_1.Key.toList) && ((x8.Seq == a_1.Seq) && ((x8.Kind == a_1.Kind) && ((x8.Value.toList == a_1.Value.toList) && ((x8.End.toList == a_1.End.toList) && true)))))
      · replace h := ifF h (booF hb11)
        conv => lhs; whnf
        obtain ⟨hg12, h⟩ := grd_inv h
        try (rw [allLen_map rRecord _ rRecord_len]; conv => lhs; whnf)
        try rw [List.length_map]
        try (rw [decide_eq_true hg12.1]; conv => lhs; whnf)
        try (rw [decide_eq_true hg12.2.1]; conv => lhs; whnf)
        try (rw [decide_eq_true hg12.2.2])
        conv => lhs; whnf
        try rw [cut_of (r := rRecord) (l := a_0)]
        obtain ⟨hg13, h⟩ := grd_inv h
        rw [app_eq hg13 ?h1 ?h2]
        case h1 => first | exact rfl | (simp only [List.length_map, List.length_cons, List.length_nil]; done) | (rw [List.length_map]; rfl)
        case h2 => exact rfl
        conv => lhs; whnf
        rw [allLen_map rRecord _ rRecord_len]
        conv => lhs; whnf
        first | (rw [nil_app_of (r := rRecord) (m := ((a_0.drop (Int.toNat 0)).take (Int.toNat (i6 : Int) - Int.toNat 0))) ?hh]; case hh => exact rfl) | skip
        obtain ⟨hg14, h⟩ := grd_inv h
        rw [app_eq hg14 ?h1 ?h2]
        case h1 => first | exact rfl | (simp only [List.length_map, List.length_cons, List.length_nil]; done) | (rw [List.length_map]; rfl)
        case h2 => exact rfl
        conv => lhs; whnf
        first | (rw [map_app_of (r := rRecord) (l := ((a_0.drop (Int.toNat 0)).take (Int.toNat (i6 : Int) - Int.toNat 0))) (m := ([a_1] : List Record)) ?hh]; case hh => exact rfl) | skip
        obtain ⟨hg15, h⟩ := grd_inv h
        try (rw [allLen_map rRecord _ rRecord_len]; conv => lhs; whnf)
        try rw [List.length_map]
        try (rw [decide_eq_true hg15.1]; conv => lhs; whnf)
        try (rw [decide_eq_true hg15.2.1]; conv => lhs; whnf)
        try (rw [decide_eq_true hg15.2.2])
        conv => lhs; whnf
        try rw [cut_of (r := rRecord) (l := a_0)]
        obtain ⟨hg16, h⟩ := grd_inv h
        rw [app_eq hg16 ?h1 ?h2]
        case h1 => first | exact rfl | (simp only [List.length_map, List.length_cons, List.length_nil]; done) | (rw [List.length_map]; rfl)
        case h2 => exact rfl
        conv => lhs; whnf
        rw [allLen_map rRecord _ rRecord_len]
        conv => lhs; whnf
        first | (rw [map_app_of (r := rRecord) (l := (((a_0.drop (Int.toNat 0)).take (Int.toNat (i6 : Int) - Int.toNat 0)) ++ ([a_1] : List Record))) (m := ((a_0.drop (Int.toNat (i6 : Int))).take (Int.toNat (a_0.length : Int) - Int.toNat (i6 : Int)))) ?hh]; case hh => exact rfl) | skip
        obtain rfl := Option.some.inj h
        show _ = _
        kernel_rfl
      · replace h := ifT h hb11
        conv => lhs; whnf
        obtain rfl := Option.some.inj h
        show _ = _
        kernel_rfl
    · replace h := ifT h hb10
      conv => lhs; whnf
      rw [wrap_nat i6 (by have := hn_i6; omega)]
      exact hnx7 _ _ _ _ (fun kk => by kernel_rfl) h
  · clear h
    rintro next_nx7 ⟨⟩ r h
    try dsimp only at h
    have hd_i6 : (decide ((a_0.length : Int) < (a_0.length : Int))) = false := decide_eq_false (by omega)
    conv => lhs; whnf
    try rw [len_of (l := a_0) (r := rRecord)]
    rw [hd_i6]
    conv => lhs; whnf
    try (rw [hd_i6]; conv => lhs; whnf)
    try (rw [hd_i6]; conv => lhs; whnf)
    try (rw [hd_i6]; conv => lhs; whnf)
    try (rw [hd_i6]; conv => lhs; whnf)
    try (rw [hd_i6]; conv => lhs; whnf)
    try (rw [hd_i6]; conv => lhs; whnf)
    try rw [len_of (l := a_0) (r := rRecord)]
    try (rw [hd_i6]; conv => lhs; whnf)
    try (rw [hd_i6]; conv => lhs; whnf)
    try (rw [hd_i6]; conv => lhs; whnf)
    try (rw [hd_i6]; conv => lhs; whnf)
    try (rw [hd_i6]; conv => lhs; whnf)
    try (rw [hd_i6]; conv => lhs; whnf)
    try (rw [hd_i6]; conv => lhs; whnf)
    obtain ⟨hg17, h⟩ := grd_inv h
    try (rw [allLen_map rRecord _ rRecord_len]; conv => lhs; whnf)
    try rw [List.length_map]
    try (rw [decide_eq_true hg17.1]; conv => lhs; whnf)
    try (rw [decide_eq_true hg17.2.1]; conv => lhs; whnf)
    try (rw [decide_eq_true hg17.2.2])
    conv => lhs; whnf
    try rw [cut_of (r := rRecord) (l := a_0)]
    obtain ⟨hg18, h⟩ := grd_inv h
    rw [app_eq hg18 ?h1 ?h2]
    case h1 => first | exact rfl | (simp only [List.length_map, List.length_cons, List.length_nil]; done) | (rw [List.length_map]; rfl)
    case h2 => exact rfl
    conv => lhs; whnf
    rw [allLen_map rRecord _ rRecord_len]
    conv => lhs; whnf
    first | (rw [nil_app_of (r := rRecord) (m := ((a_0.drop (Int.toNat 0)).take (Int.toNat (a_0.length : Int) - Int.toNat 0))) ?hh]; case hh => exact rfl) | skip
    obtain ⟨hg19, h⟩ := grd_inv h
    rw [app_eq hg19 ?h1 ?h2]
    case h1 => first | exact rfl | (simp only [List.length_map, List.length_cons, List.length_nil]; done) | (rw [List.length_map]; rfl)
    case h2 => exact rfl
    conv => lhs; whnf
    first | (rw [map_app_of (r := rRecord) (l := ((a_0.drop (Int.toNat 0)).take (Int.toNat (a_0.length : Int) - Int.toNat 0))) (m := ([a_1] : List Record)) ?hh]; case hh => exact rfl) | skip
    obtain ⟨hg20, h⟩ := grd_inv h
    try (rw [allLen_map rRecord _ rRecord_len]; conv => lhs; whnf)
    try rw [List.length_map]
    try (rw [decide_eq_true hg20.1]; conv => lhs; whnf)
    try (rw [decide_eq_true hg20.2.1]; conv => lhs; whnf)
    try (rw [decide_eq_true hg20.2.2])
    conv => lhs; whnf
    try rw [cut_of (r := rRecord) (l := a_0)]
    obtain ⟨hg21, h⟩ := grd_inv h
    rw [app_eq hg21 ?h1 ?h2]
    case h1 => first | exact rfl | (simp only [List.length_map, List.length_cons, List.length_nil]; done) | (rw [List.length_map]; rfl)
    case h2 => exact rfl
    conv => lhs; whnf
    rw [allLen_map rRecord _ rRecord_len]
    conv => lhs; whnf
    first | (rw [map_app_of (r := rRecord) (l := (((a_0.drop (Int.toNat 0)).take (Int.toNat (a_0.length : Int) - Int.toNat 0)) ++ ([a_1] : List Record))) (m := ((a_0.drop (Int.toNat (a_0.length : Int))).take (Int.toNat (a_0.length : Int) - Int.toNat (a_0.length : Int)))) ?hh]; case hh => exact rfl) | skip
    obtain rfl := Option.some.inj h
    show _ = _
    kernel_rfl

noncomputable def p_spec_l17DrawRun (a_0 : Int) (a_1 : Sl00Src) : Option ((List Record) × Sl00Src) :=
  callK (p_spec_l00Src_pick 3 a_1) fun y1 =>
  callK (p_spec_l00Src_pick (IntKind.i64.wrap (a_0 + 1)) y1.2) fun y2 =>
  iterK (fun ((v3, v4, v5, v6) : ((List Record) × Int × Int × Sl00Src)) (nx7 : ((List Record) × Int × Int × Sl00Src) → Option _) =>
    if v5 > 0 then
      callK (p_spec_l00Src_pick 2 v6) fun y9 =>
      callK (p_spec_l17Draw (IntKind.i64.wrap (v4 + (IntKind.i64.wrap (1 + y9.1)))) y9.2) fun y10 =>
      callK (p_spec_l17Into v3 y10.1) fun y11 =>
      nx7 (y11, (IntKind.i64.wrap (v4 + (IntKind.i64.wrap (1 + y9.1)))), (IntKind.i64.wrap (v5 - 1)), y10.2)
    else
      some (v3, v6)) NN (([] : List Record), y1.1, y2.1, y2.2)

set_option maxHeartbeats 4000000 in
theorem L_spec_l17DrawRun (a_0 : Int) (a_1 : Sl00Src) {r : ((List Record) × Sl00Src)} (h : p_spec_l17DrawRun a_0 a_1 = some r) : callL E 80 [.bp 0 0, IN a_0] ([some (.box [.d (.arr (a_1.Code.map rU)), IN a_1.At, .d (.lit (.int .u64 a_1.Seed))])] : Fo) = some (.d (.arr (r.1.map rRecord)), ([some (.box [.d (.arr (r.2.Code.map rU)), IN r.2.At, .d (.lit (.int .u64 r.2.Seed))])] : Fo)) := by
  unfold p_spec_l17DrawRun at h
  refine callW (fu := Try.f80) rfl rfl rfl NN ?_
  intro lp cl hlp hcl
  conv => lhs; whnf
  obtain ⟨y1, h_y1, h⟩ := callK_inv h
  rw [cl_eq hcl (L_spec_l00Src_pick 3 a_1 h_y1)]
  rotate_left
  · show _ = _
    kernel_rfl
  · show _ = _
    kernel_rfl
  conv => lhs; whnf
  obtain ⟨y2, h_y2, h⟩ := callK_inv h
  rw [cl_eq hcl (L_spec_l00Src_pick (IntKind.i64.wrap (a_0 + 1)) y1.2 h_y2)]
  rotate_left
  · show _ = _
    kernel_rfl
  · show _ = _
    kernel_rfl
  conv => lhs; whnf
  refine loop_iter hlp (fun ((v3, v4, v5, v6) : ((List Record) × Int × Int × Sl00Src)) => ([.bp 0 0, .dead, .dead, .dead, .dead, .d (.arr (v3.map rRecord)), IN v4, IN v5] ++ List.replicate 22 .dead : List V)) (fun ((v3, v4, v5, v6) : ((List Record) × Int × Int × Sl00Src)) => ([some (.box [.d (.arr (v6.Code.map rU)), IN v6.At, .d (.lit (.int .u64 v6.Seed))])] : Fo)) (fun (r : ((List Record) × Sl00Src)) => ((.d (.arr (r.1.map rRecord)) : V), ([some (.box [.d (.arr (r.2.Code.map rU)), IN r.2.At, .d (.lit (.int .u64 r.2.Seed))])] : Fo))) ?_ (([] : List Record), y1.1, y2.1, y2.2) _ (fun kk => by kernel_rfl) h
  clear h
  rintro next_nx7 nx7 hnx7 ⟨v3, v4, v5, v6⟩ r h
  try dsimp only at h
  conv => lhs; whnf
  cases hb8 : (decide (v5 > 0))
  · replace h := ifF h (decF hb8)
    conv => lhs; whnf
    obtain rfl := Option.some.inj h
    show _ = _
    kernel_rfl
  · replace h := ifT h (decT hb8)
    conv => lhs; whnf
    obtain ⟨y9, h_y9, h⟩ := callK_inv h
    rw [cl_eq hcl (L_spec_l00Src_pick 2 v6 h_y9)]
    rotate_left
    · show _ = _
      kernel_rfl
    · show _ = _
      kernel_rfl
    conv => lhs; whnf
    obtain ⟨y10, h_y10, h⟩ := callK_inv h
    rw [cl_eq hcl (L_spec_l17Draw (IntKind.i64.wrap (v4 + (IntKind.i64.wrap (1 + y9.1)))) y9.2 h_y10)]
    rotate_left
    · show _ = _
      kernel_rfl
    · show _ = _
      kernel_rfl
    conv => lhs; whnf
    obtain ⟨y11, h_y11, h⟩ := callK_inv h
    rw [cl_eq hcl (L_spec_l17Into v3 y10.1 h_y11)]
    rotate_left
    · show _ = _
      kernel_rfl
    · show _ = _
      kernel_rfl
    conv => lhs; whnf
    exact hnx7 _ _ _ _ (fun kk => by kernel_rfl) h

noncomputable def p_spec_A8Run (a_0 : List Int) (a_1 : Int) : Option (List Record) :=
  callK (p_spec_l00From a_0) fun y1 =>
  callK (p_spec_l17DrawRun a_1 y1) fun y2 =>
  some y2.1

set_option maxHeartbeats 4000000 in
theorem L_spec_A8Run (a_0 : List Int) (a_1 : Int) {r : (List Record)} (h : p_spec_A8Run a_0 a_1 = some r) : callL E 14 [.d (.arr (a_0.map rU)), IN a_1] ([] : Fo) = some (.d (.arr (r.map rRecord)), ([] : Fo)) := by
  unfold p_spec_A8Run at h
  refine callW (fu := Try.f14) rfl rfl rfl NN ?_
  intro lp cl hlp hcl
  conv => lhs; whnf
  obtain ⟨y1, h_y1, h⟩ := callK_inv h
  rw [cl_eq hcl (L_spec_l00From a_0 h_y1)]
  rotate_left
  · show _ = _
    kernel_rfl
  · show _ = _
    kernel_rfl
  conv => lhs; whnf
  obtain ⟨y2, h_y2, h⟩ := callK_inv h
  rw [cl_eq hcl (L_spec_l17DrawRun a_1 y1 h_y2)]
  rotate_left
  · show _ = _
    kernel_rfl
  · show _ = _
    kernel_rfl
  conv => lhs; whnf
  obtain rfl := Option.some.inj h
  show _ = _
  kernel_rfl

noncomputable def p_laws_a8At (a_0 : List Int) (a_1 : Int) (a_2 : Int) : Option Int :=
  if a_2 ≤ 1 then
    some 0
  else
    grd (a_0.length < 4611686018427387904) <|
    forK a_0 (fun (i6 : Nat) x9 (v7 : Int) (nx8 : Int → Option _) =>
      nx8 (Int.tmod (IntKind.i64.wrap ((IntKind.i64.wrap (v7 * 31)) + (IntKind.i64.wrap x9))) 1000003)) (IntKind.i64.wrap ((IntKind.i64.wrap (a_1 * 7)) + 3)) (fun (v7 : Int) =>
      grd (a_2 ≠ 0) <|
      some (Int.tmod v7 a_2))

set_option maxHeartbeats 4000000 in
theorem L_laws_a8At (a_0 : List Int) (a_1 : Int) (a_2 : Int) {r : Int} (h : p_laws_a8At a_0 a_1 a_2 = some r) : callL E 17 [.d (.arr (a_0.map rU)), IN a_1, IN a_2] ([] : Fo) = some (IN r, ([] : Fo)) := by
  unfold p_laws_a8At at h
  refine callW (fu := Try.f17) rfl rfl rfl NN ?_
  intro lp cl hlp hcl
  conv => lhs; whnf
  cases hb1 : (decide (a_2 ≤ 1))
  · replace h := ifF h (decF hb1)
    conv => lhs; whnf
    obtain ⟨hl_i6, h⟩ := grd_inv h
    refine loop_for hlp (l := a_0) hl_i6 (fun (i6 : Nat) (v7 : Int) => ([.d (.arr (a_0.map rU)), .dead, IN a_2, .dead, .dead, .dead, .dead, IN v7, IN (i6 : Int)] ++ List.replicate 23 .dead : List V)) (fun (i6 : Nat) (v7 : Int) => ([] : Fo)) (fun (r : Int) => ((IN r : V), ([] : Fo))) ?_ ?_ (IntKind.i64.wrap ((IntKind.i64.wrap (a_1 * 7)) + 3)) _ (fun kk => by kernel_rfl) h
    · clear h
      rintro next_nx8 nx8 i6 hi_i6 hnx8 v7 r h
      try dsimp only at h
      have hn_i6 : i6 < 4611686018427387904 := by omega
      have hx_x9 := get_map rU a_0 i6 hi_i6
      generalize a_0[i6] = x9 at h hx_x9
      have hd_i6 : (decide ((i6 : Int) < (a_0.length : Int))) = true := decide_eq_true (by omega)
      conv => lhs; whnf
      try rw [len_of (l := a_0) (r := rU)]
      rw [hd_i6]
      conv => lhs; whnf
      try (rw [decide_eq_true hq_x9]; conv => lhs; whnf)
      rw [hx_x9]
      conv => lhs; whnf
      rw [hx_x9]
      conv => lhs; whnf
      try (rw [rem_run _ _ _ 1000003 (by decide)]; conv => lhs; whnf)
      conv => lhs; whnf
      rw [wrap_nat i6 (by have := hn_i6; omega)]
      exact hnx8 _ _ _ _ (fun kk => by kernel_rfl) h
    · clear h
      rintro next_nx8 v7 r h
      try dsimp only at h
      have hd_i6 : (decide ((a_0.length : Int) < (a_0.length : Int))) = false := decide_eq_false (by omega)
      conv => lhs; whnf
      try rw [len_of (l := a_0) (r := rU)]
      rw [hd_i6]
      conv => lhs; whnf
      obtain ⟨hg10, h⟩ := grd_inv h
      rw [rem_run _ _ _ _ hg10]
      conv => lhs; whnf
      obtain rfl := Option.some.inj h
      show _ = _
      kernel_rfl
  · replace h := ifT h (decT hb1)
    conv => lhs; whnf
    obtain rfl := Option.some.inj h
    show _ = _
    kernel_rfl

noncomputable def p_laws_a8Mix (a_0 : List Int) (a_1 : Int) : Option (List Int) :=
  callK (p_laws_a8At a_0 a_1 256) fun y1 =>
  grd (appOk (2 + a_0.length) 1 = true) <|
  some (([(IntKind.u8.wrap a_1), (IntKind.u8.wrap y1)] : List Int) ++ a_0)

set_option maxHeartbeats 4000000 in
theorem L_laws_a8Mix (a_0 : List Int) (a_1 : Int) {r : (List Int)} (h : p_laws_a8Mix a_0 a_1 = some r) : callL E 16 [.d (.arr (a_0.map rU)), IN a_1] ([] : Fo) = some (.d (.arr (r.map rU)), ([] : Fo)) := by
  unfold p_laws_a8Mix at h
  refine callW (fu := Try.f16) rfl rfl rfl NN ?_
  intro lp cl hlp hcl
  conv => lhs; whnf
  obtain ⟨y1, h_y1, h⟩ := callK_inv h
  rw [cl_eq hcl (L_laws_a8At a_0 a_1 256 h_y1)]
  rotate_left
  · show _ = _
    kernel_rfl
  · show _ = _
    kernel_rfl
  conv => lhs; whnf
  obtain ⟨hg2, h⟩ := grd_inv h
  rw [app_eq hg2 ?h1 ?h2]
  case h1 => first | exact rfl | (simp only [List.length_map, List.length_cons, List.length_nil]; done) | (rw [List.length_map]; rfl)
  case h2 => exact rfl
  conv => lhs; whnf
  rw [allLen_map rU _ rU_len]
  conv => lhs; whnf
  first | (rw [map_app_of (r := rU) (l := ([(IntKind.u8.wrap a_1), (IntKind.u8.wrap y1)] : List Int)) (m := a_0) ?hh]; case hh => exact rfl) | skip
  obtain rfl := Option.some.inj h
  show _ = _
  kernel_rfl

noncomputable def p_spec_l23DrawSnapshots (a_0 : Sl00Src) : Option ((List Int) × Sl00Src) :=
  callK (p_spec_l00Src_pick 3 a_0) fun y1 =>
  callK (p_spec_l00Src_pick 4 y1.2) fun y2 =>
  iterK (fun ((v3, v4, v5, v6) : (Int × Int × Sl00Src × (List Int))) (nx7 : (Int × Int × Sl00Src × (List Int)) → Option _) =>
    if v4 > 0 then
      grd (appOk (v6.length + 1) 8 = true) <|
      callK (p_spec_l00Src_pick 6 v5) fun y9 =>
      nx7 ((IntKind.i64.wrap (v3 + (IntKind.i64.wrap (1 + y9.1)))), (IntKind.i64.wrap (v4 - 1)), y9.2, (v6 ++ ([v3] : List Int)))
    else
      callK (p_spec_l00Src_one 12 v5) fun y10 =>
      if y10.1 = true then
        callK (p_spec_l00Src_among ([(-1), 3, 1000000, 1000001] : List Int) y10.2) fun y12 =>
        grd (appOk (v6.length + 1) 8 = true) <|
        some ((v6 ++ ([y12.1] : List Int)), y12.2)
      else
        some (v6, y10.2)) NN (y1.1, y2.1, y2.2, ([] : List Int))

set_option maxHeartbeats 4000000 in
theorem L_spec_l23DrawSnapshots (a_0 : Sl00Src) {r : ((List Int) × Sl00Src)} (h : p_spec_l23DrawSnapshots a_0 = some r) : callL E 82 [.bp 0 0] ([some (.box [.d (.arr (a_0.Code.map rU)), IN a_0.At, .d (.lit (.int .u64 a_0.Seed))])] : Fo) = some (.d (.arr (r.1.map rI)), ([some (.box [.d (.arr (r.2.Code.map rU)), IN r.2.At, .d (.lit (.int .u64 r.2.Seed))])] : Fo)) := by
  unfold p_spec_l23DrawSnapshots at h
  refine callW (fu := Try.f82) rfl rfl rfl NN ?_
  intro lp cl hlp hcl
  conv => lhs; whnf
  obtain ⟨y1, h_y1, h⟩ := callK_inv h
  rw [cl_eq hcl (L_spec_l00Src_pick 3 a_0 h_y1)]
  rotate_left
  · show _ = _
    kernel_rfl
  · show _ = _
    kernel_rfl
  conv => lhs; whnf
  obtain ⟨y2, h_y2, h⟩ := callK_inv h
  rw [cl_eq hcl (L_spec_l00Src_pick 4 y1.2 h_y2)]
  rotate_left
  · show _ = _
    kernel_rfl
  · show _ = _
    kernel_rfl
  conv => lhs; whnf
  refine loop_iter hlp (fun ((v3, v4, v5, v6) : (Int × Int × Sl00Src × (List Int))) => ([.bp 0 0, .dead, .dead, .sl 1, IN v3, IN v4] ++ List.replicate 29 .dead : List V)) (fun ((v3, v4, v5, v6) : (Int × Int × Sl00Src × (List Int))) => ([some (.box [.d (.arr (v5.Code.map rU)), IN v5.At, .d (.lit (.int .u64 v5.Seed))]), some (.arr 2 1 (v6.map rI))] : Fo)) (fun (r : ((List Int) × Sl00Src)) => ((.d (.arr (r.1.map rI)) : V), ([some (.box [.d (.arr (r.2.Code.map rU)), IN r.2.At, .d (.lit (.int .u64 r.2.Seed))])] : Fo))) ?_ (y1.1, y2.1, y2.2, ([] : List Int)) _ (fun kk => by kernel_rfl) h
  clear h
  rintro next_nx7 nx7 hnx7 ⟨v3, v4, v5, v6⟩ r h
  try dsimp only at h
  conv => lhs; whnf
  cases hb8 : (decide (v4 > 0))
  · replace h := ifF h (decF hb8)
    conv => lhs; whnf
    obtain ⟨y10, h_y10, h⟩ := callK_inv h
    rw [cl_eq hcl (L_spec_l00Src_one 12 v5 h_y10)]
    rotate_left
    · show _ = _
      kernel_rfl
    · show _ = _
      kernel_rfl
    conv => lhs; whnf
    cases hb11 : y10.1
    · replace h := ifF h (booF hb11)
      conv => lhs; whnf
      obtain rfl := Option.some.inj h
      show _ = _
      kernel_rfl
    · replace h := ifT h hb11
      conv => lhs; whnf
      obtain ⟨y12, h_y12, h⟩ := callK_inv h
      rw [cl_eq hcl (L_spec_l00Src_among ([(-1), 3, 1000000, 1000001] : List Int) y10.2 h_y12)]
      rotate_left
      · show _ = _
        kernel_rfl
      · show _ = _
        kernel_rfl
      conv => lhs; whnf
      obtain ⟨hg13, h⟩ := grd_inv h
      rw [app_eq hg13 ?h1 ?h2]
      case h1 => first | exact rfl | (simp only [List.length_map, List.length_cons, List.length_nil]; done) | (rw [List.length_map]; rfl)
      case h2 => exact rfl
      conv => lhs; whnf
      first | (rw [map_app_of (r := rI) (l := v6) (m := ([y12.1] : List Int)) ?hh]; case hh => exact rfl) | skip
      obtain rfl := Option.some.inj h
      show _ = _
      kernel_rfl
  · replace h := ifT h (decT hb8)
    conv => lhs; whnf
    obtain ⟨hg14, h⟩ := grd_inv h
    rw [app_eq hg14 ?h1 ?h2]
    case h1 => first | exact rfl | (simp only [List.length_map, List.length_cons, List.length_nil]; done) | (rw [List.length_map]; rfl)
    case h2 => exact rfl
    conv => lhs; whnf
    first | (rw [map_app_of (r := rI) (l := v6) (m := ([v3] : List Int)) ?hh]; case hh => exact rfl) | skip
    obtain ⟨y9, h_y9, h⟩ := callK_inv h
    rw [cl_eq hcl (L_spec_l00Src_pick 6 v5 h_y9)]
    rotate_left
    · show _ = _
      kernel_rfl
    · show _ = _
      kernel_rfl
    conv => lhs; whnf
    exact hnx7 _ _ _ _ (fun kk => by kernel_rfl) h

noncomputable def p_spec_l23Snapshots (a_0 : List Int) : Option Bool :=
  grd (a_0.length < 4611686018427387904) <|
  forK a_0 (fun (i8 : Nat) x10 (_ : Unit) (nx9 : Unit → Option _) =>
    if (inR x10 0 1000000) = true then
      if (i8 : Int) > 0 then
        getK a_0 (IntKind.i64.wrap ((i8 : Int) - 1)) fun x13 =>
        if x13 ≥ x10 then
          some false
        else
          nx9 ()
      else
        nx9 ()
    else
      some false) () (fun (_ : Unit) =>
    some (decide ((a_0.length : Int) ≤ 4)))

set_option maxHeartbeats 4000000 in
theorem L_spec_l23Snapshots (a_0 : List Int) {r : Bool} (h : p_spec_l23Snapshots a_0 = some r) : callL E 83 [.d (.arr (a_0.map rI))] ([] : Fo) = some (BO r, ([] : Fo)) := by
  unfold p_spec_l23Snapshots at h
  refine callW (fu := Try.f83) rfl rfl rfl NN ?_
  intro lp cl hlp hcl
  conv => lhs; whnf
  obtain ⟨hl_i8, h⟩ := grd_inv h
  refine loop_for hlp (l := a_0) hl_i8 (fun (i8 : Nat) (_ : Unit) => ([.d (.arr (a_0.map rI)), .dead, .dead, IN (i8 : Int)] ++ List.replicate 31 .dead : List V)) (fun (i8 : Nat) (_ : Unit) => ([] : Fo)) (fun (r : Bool) => ((BO r : V), ([] : Fo))) ?_ ?_ () _ (fun kk => by kernel_rfl) h
  · clear h
    rintro next_nx9 nx9 i8 hi_i8 hnx9 ⟨⟩ r h
    try dsimp only at h
    have hn_i8 : i8 < 4611686018427387904 := by omega
    have hx_x10 := get_map rI a_0 i8 hi_i8
    generalize a_0[i8] = x10 at h hx_x10
    have hd_i8 : (decide ((i8 : Int) < (a_0.length : Int))) = true := decide_eq_true (by omega)
    conv => lhs; whnf
    try rw [len_of (l := a_0) (r := rI)]
    rw [hd_i8]
    conv => lhs; whnf
    try (rw [decide_eq_true hq_x10]; conv => lhs; whnf)
    rw [hx_x10]
    conv => lhs; whnf
    rw [hx_x10]
    conv => lhs; whnf
    rw [cl_eq hcl (L_spec_l00In x10 0 1000000 (pl_l00In x10 0 1000000))]
    rotate_left
    · show _ = _
      kernel_rfl
    · show _ = _
      kernel_rfl
    conv => lhs; whnf
    cases hb11 : (inR x10 0 1000000)
    · replace h := ifF h (booF hb11)
      conv => lhs; whnf
      try (rw [hb11]; conv => lhs; whnf)
      try (rw [hb11]; conv => lhs; whnf)
      try (rw [hb11]; conv => lhs; whnf)
      try (rw [hb11]; conv => lhs; whnf)
      obtain rfl := Option.some.inj h
      show _ = _
      kernel_rfl
    · replace h := ifT h hb11
      conv => lhs; whnf
      try (rw [hb11]; conv => lhs; whnf)
      try (rw [hb11]; conv => lhs; whnf)
      cases hb12 : (decide ((i8 : Int) > 0))
      · replace h := ifF h (decF hb12)
        conv => lhs; whnf
        try (rw [hb12]; conv => lhs; whnf)
        try (rw [hb12]; conv => lhs; whnf)
        try (rw [hb12]; conv => lhs; whnf)
        try (rw [hb12]; conv => lhs; whnf)
        try (rw [hb12]; conv => lhs; whnf)
        try (rw [hb12]; conv => lhs; whnf)
        try (rw [hb12]; conv => lhs; whnf)
        try (rw [hb12]; conv => lhs; whnf)
        try (rw [hb12]; conv => lhs; whnf)
        try (rw [hb11]; conv => lhs; whnf)
        try (rw [hb12]; conv => lhs; whnf)
        try (rw [hb11]; conv => lhs; whnf)
        rw [wrap_nat i8 (by have := hn_i8; omega)]
        exact hnx9 _ _ _ _ (fun kk => by kernel_rfl) h
      · replace h := ifT h (decT hb12)
        conv => lhs; whnf
        try (rw [hb12]; conv => lhs; whnf)
        try (rw [hb12]; conv => lhs; whnf)
        try (rw [hb12]; conv => lhs; whnf)
        obtain ⟨x13, hq_x13, hx_x13', h⟩ := getK_inv h
        have hx_x13 := get_of (r := rI) hx_x13'
        try (rw [decide_eq_true hq_x13]; conv => lhs; whnf)
        rw [hx_x13]
        conv => lhs; whnf
        try (rw [hb12]; conv => lhs; whnf)
        rw [hx_x13]
        conv => lhs; whnf
        try (rw [hb12]; conv => lhs; whnf)
        try (rw [hb12]; conv => lhs; whnf)
        try (rw [hb12]; conv => lhs; whnf)
        try (rw [decide_eq_true hq_x10]; conv => lhs; whnf)
        rw [hx_x10]
        conv => lhs; whnf
        try (rw [hb12]; conv => lhs; whnf)
        rw [hx_x10]
        conv => lhs; whnf
        try (rw [hb12]; conv => lhs; whnf)
        try (rw [hb11]; conv => lhs; whnf)
        try (rw [hb12]; conv => lhs; whnf)
        try (rw [hb11]; conv => lhs; whnf)
        cases hb14 : (decide (x13 ≥ x10))
        · replace h := ifF h (decF hb14)
          conv => lhs; whnf
          rw [wrap_nat i8 (by have := hn_i8; omega)]
          exact hnx9 _ _ _ _ (fun kk => by kernel_rfl) h
        · replace h := ifT h (decT hb14)
          conv => lhs; whnf
          obtain rfl := Option.some.inj h
          show _ = _
          kernel_rfl
  · clear h
    rintro next_nx9 ⟨⟩ r h
    try dsimp only at h
    have hd_i8 : (decide ((a_0.length : Int) < (a_0.length : Int))) = false := decide_eq_false (by omega)
    conv => lhs; whnf
    try rw [len_of (l := a_0) (r := rI)]
    rw [hd_i8]
    conv => lhs; whnf
    try rw [len_of (l := a_0) (r := rI)]
    obtain rfl := Option.some.inj h
    show _ = _
    kernel_rfl

noncomputable def p_spec_A8Snapshots (a_0 : List Int) : Option (List Int) :=
  callK (p_spec_l00From a_0) fun y1 =>
  callK (p_spec_l23DrawSnapshots y1) fun y2 =>
  callK (p_spec_l23Snapshots y2.1) fun y3 =>
  if y3 = true then
    some y2.1
  else
    some ([] : List Int)

set_option maxHeartbeats 4000000 in
theorem L_spec_A8Snapshots (a_0 : List Int) {r : (List Int)} (h : p_spec_A8Snapshots a_0 = some r) : callL E 15 [.d (.arr (a_0.map rU))] ([] : Fo) = some (.d (.arr (r.map rI)), ([] : Fo)) := by
  unfold p_spec_A8Snapshots at h
  refine callW (fu := Try.f15) rfl rfl rfl NN ?_
  intro lp cl hlp hcl
  conv => lhs; whnf
  obtain ⟨y1, h_y1, h⟩ := callK_inv h
  rw [cl_eq hcl (L_spec_l00From a_0 h_y1)]
  rotate_left
  · show _ = _
    kernel_rfl
  · show _ = _
    kernel_rfl
  conv => lhs; whnf
  obtain ⟨y2, h_y2, h⟩ := callK_inv h
  rw [cl_eq hcl (L_spec_l23DrawSnapshots y1 h_y2)]
  rotate_left
  · show _ = _
    kernel_rfl
  · show _ = _
    kernel_rfl
  conv => lhs; whnf
  obtain ⟨y3, h_y3, h⟩ := callK_inv h
  rw [cl_eq hcl (L_spec_l23Snapshots y2.1 h_y3)]
  rotate_left
  · show _ = _
    kernel_rfl
  · show _ = _
    kernel_rfl
  conv => lhs; whnf
  cases hb4 : y3
  · replace h := ifF h (booF hb4)
    conv => lhs; whnf
    obtain rfl := Option.some.inj h
    show _ = _
    kernel_rfl
  · replace h := ifT h hb4
    conv => lhs; whnf
    obtain rfl := Option.some.inj h
    show _ = _
    kernel_rfl

noncomputable def p_impl_ValidKey (a_0 : ByteArray) : Option Bool :=
  some (inR (ByteArray.size a_0 : Int) 1 8)

set_option maxHeartbeats 4000000 in
theorem L_impl_ValidKey (a_0 : ByteArray) {r : Bool} (h : p_impl_ValidKey a_0 = some r) : callL E 119 [ST a_0] ([] : Fo) = some (BO r, ([] : Fo)) := by
  unfold p_impl_ValidKey at h
  refine callW (fu := Try.f119) rfl rfl rfl NN ?_
  intro lp cl hlp hcl
  conv => lhs; whnf
  rw [cl_eq hcl (L_impl_within (ByteArray.size a_0 : Int) 1 8 (pl_within (ByteArray.size a_0 : Int) 1 8))]
  rotate_left
  · show _ = _
    kernel_rfl
  · show _ = _
    kernel_rfl
  conv => lhs; whnf
  obtain rfl := Option.some.inj h
  show _ = _
  kernel_rfl

noncomputable def p_impl_ValidRecord (a_0 : Record) : Option Bool :=
  callK (p_impl_ValidKey a_0.Key) fun y1 =>
  if y1 = true then
    if (inR a_0.Seq 1 1000000) = true then
      if a_0.Kind = 1 then
        if (ByteArray.size a_0.Value : Int) ≤ 16 then
          some (a_0.End.toList == (⟨#[]⟩ : ByteArray).toList)
        else
          some false
      else
        if a_0.Kind = 2 then
          if (a_0.Value.toList == (⟨#[]⟩ : ByteArray).toList) = true then
            some (a_0.End.toList == (⟨#[]⟩ : ByteArray).toList)
          else
            some false
        else
          if a_0.Kind = 3 then
            if (a_0.Value.toList == (⟨#[]⟩ : ByteArray).toList) = true then
              callK (p_impl_ValidKey a_0.End) fun y10 =>
              if y10 = true then
                some (!((Op.bytesLess a_0.End.toList a_0.Key.toList) || (a_0.End.toList == a_0.Key.toList)))
              else
                some false
            else
              some false
          else
            some false
    else
      some false
  else
    some false

set_option maxHeartbeats 4000000 in
theorem L_impl_ValidRecord (a_0 : Record) {r : Bool} (h : p_impl_ValidRecord a_0 = some r) : callL E 88 [.agg [ST a_0.Key, IN a_0.Seq, IN a_0.Kind, ST a_0.Value, ST a_0.End]] ([] : Fo) = some (BO r, ([] : Fo)) := by
  unfold p_impl_ValidRecord at h
  refine callW (fu := Try.f88) rfl rfl rfl NN ?_
  intro lp cl hlp hcl
  conv => lhs; whnf
  obtain ⟨y1, h_y1, h⟩ := callK_inv h
  rw [cl_eq hcl (L_impl_ValidKey a_0.Key h_y1)]
  rotate_left
  · show _ = _
    kernel_rfl
  · show _ = _
    kernel_rfl
  conv => lhs; whnf
  cases hb2 : y1
  · replace h := ifF h (booF hb2)
    conv => lhs; whnf
    try (rw [hb2]; conv => lhs; whnf)
    try (rw [hb2]; conv => lhs; whnf)
    try (rw [hb2]; conv => lhs; whnf)
    try (rw [hb2]; conv => lhs; whnf)
    obtain rfl := Option.some.inj h
    show _ = _
    kernel_rfl
  · replace h := ifT h hb2
    try rw [hb2] at h
    conv => lhs; whnf
    try (rw [hb2]; conv => lhs; whnf)
    try (rw [hb2]; conv => lhs; whnf)
    rw [cl_eq hcl (L_impl_within a_0.Seq 1 1000000 (pl_within a_0.Seq 1 1000000))]
    rotate_left
    · show _ = _
      kernel_rfl
    · show _ = _
      kernel_rfl
    conv => lhs; whnf
    try (rw [hb2]; conv => lhs; whnf)
    try (rw [hb2]; conv => lhs; whnf)
    cases hb3 : (inR a_0.Seq 1 1000000)
    · replace h := ifF h (booF hb3)
      conv => lhs; whnf
      obtain rfl := Option.some.inj h
      show _ = _
      kernel_rfl
    · replace h := ifT h hb3
      conv => lhs; whnf
      cases hb4 : (a_0.Kind == 1)
      · replace h := ifF h (beqF hb4)
        conv => lhs; whnf
        cases hb6 : (a_0.Kind == 2)
        · replace h := ifF h (beqF hb6)
          conv => lhs; whnf
          cases hb8 : (a_0.Kind == 3)
          · replace h := ifF h (beqF hb8)
            conv => lhs; whnf
            obtain rfl := Option.some.inj h
            show _ = _
            kernel_rfl
          · replace h := ifT h (beqT hb8)
            conv => lhs; whnf
            cases hb9 : (a_0.Value.toList == (⟨#[]⟩ : ByteArray).toList)
            · replace h := ifF h (booF hb9)
              conv => lhs; whnf
              try (rw [hb9]; conv => lhs; whnf)
              try (rw [hb9]; conv => lhs; whnf)
              try (rw [hb9]; conv => lhs; whnf)
              obtain rfl := Option.some.inj h
              show _ = _
              kernel_rfl
            · replace h := ifT h hb9
              conv => lhs; whnf
              try (rw [hb9]; conv => lhs; whnf)
              try (rw [hb9]; conv => lhs; whnf)
              obtain ⟨y10, h_y10, h⟩ := callK_inv h
              rw [cl_eq hcl (L_impl_ValidKey a_0.End h_y10)]
              rotate_left
              · show _ = _
                kernel_rfl
              · show _ = _
                kernel_rfl
              conv => lhs; whnf
              try (rw [hb9]; conv => lhs; whnf)
              cases hb11 : y10
              · replace h := ifF h (booF hb11)
                conv => lhs; whnf
                try (rw [hb11]; conv => lhs; whnf)
                try (rw [hb11]; conv => lhs; whnf)
                try (rw [hb11]; conv => lhs; whnf)
                try (rw [hb11]; conv => lhs; whnf)
                try (rw [hb11]; conv => lhs; whnf)
                obtain rfl := Option.some.inj h
                show _ = _
                kernel_rfl
              · replace h := ifT h hb11
                conv => lhs; whnf
                try (rw [hb11]; conv => lhs; whnf)
                try (rw [hb11]; conv => lhs; whnf)
                try (rw [hb11]; conv => lhs; whnf)
                try (rw [hb11]; conv => lhs; whnf)
                try (rw [hb11]; conv => lhs; whnf)
                obtain rfl := Option.some.inj h
                show _ = _
                kernel_rfl
        · replace h := ifT h (beqT hb6)
          conv => lhs; whnf
          cases hb7 : (a_0.Value.toList == (⟨#[]⟩ : ByteArray).toList)
          · replace h := ifF h (booF hb7)
            conv => lhs; whnf
            try (rw [hb7]; conv => lhs; whnf)
            try (rw [hb7]; conv => lhs; whnf)
            try (rw [hb7]; conv => lhs; whnf)
            obtain rfl := Option.some.inj h
            show _ = _
            kernel_rfl
          · replace h := ifT h hb7
            conv => lhs; whnf
            try (rw [hb7]; conv => lhs; whnf)
            try (rw [hb7]; conv => lhs; whnf)
            try (rw [hb7]; conv => lhs; whnf)
            obtain rfl := Option.some.inj h
            show _ = _
            kernel_rfl
      · replace h := ifT h (beqT hb4)
        conv => lhs; whnf
        cases hb5 : (decide ((ByteArray.size a_0.Value : Int) ≤ 16))
        · replace h := ifF h (decF hb5)
          conv => lhs; whnf
          try (rw [hb5]; conv => lhs; whnf)
          try (rw [hb5]; conv => lhs; whnf)
          try (rw [hb5]; conv => lhs; whnf)
          obtain rfl := Option.some.inj h
          show _ = _
          kernel_rfl
        · replace h := ifT h (decT hb5)
          conv => lhs; whnf
          try (rw [hb5]; conv => lhs; whnf)
          try (rw [hb5]; conv => lhs; whnf)
          try (rw [hb5]; conv => lhs; whnf)
          obtain rfl := Option.some.inj h
          show _ = _
          kernel_rfl

noncomputable def p_cmp_isNaN (a_0 : Int) : Option Bool :=
  some (a_0 != a_0)

set_option maxHeartbeats 4000000 in
theorem L_cmp_isNaN (a_0 : Int) {r : Bool} (h : p_cmp_isNaN a_0 = some r) : callL E 234 [IN a_0] ([] : Fo) = some (BO r, ([] : Fo)) := by
  unfold p_cmp_isNaN at h
  refine callW (fu := Try.f234) rfl rfl rfl NN ?_
  intro lp cl hlp hcl
  conv => lhs; whnf
  obtain rfl := Option.some.inj h
  show _ = _
  kernel_rfl

noncomputable def p_cmp_Compare (a_0 : Int) (a_1 : Int) : Option Int :=
  callK (p_cmp_isNaN a_0) fun y1 =>
  callK (p_cmp_isNaN a_1) fun y2 =>
  if y1 = true then
    if y2 = true then
      some 0
    else
      some (-1)
  else
    if y2 = true then
      some 1
    else
      if a_0 < a_1 then
        some (-1)
      else
        if a_0 > a_1 then
          some 1
        else
          some 0

set_option maxHeartbeats 4000000 in
theorem L_cmp_Compare (a_0 : Int) (a_1 : Int) {r : Int} (h : p_cmp_Compare a_0 a_1 = some r) : callL E 206 [IN a_0, IN a_1] ([] : Fo) = some (IN r, ([] : Fo)) := by
  unfold p_cmp_Compare at h
  refine callW (fu := Try.f206) rfl rfl rfl NN ?_
  intro lp cl hlp hcl
  conv => lhs; whnf
  obtain ⟨y1, h_y1, h⟩ := callK_inv h
  rw [cl_eq hcl (L_cmp_isNaN a_0 h_y1)]
  rotate_left
  · show _ = _
    kernel_rfl
  · show _ = _
    kernel_rfl
  conv => lhs; whnf
  obtain ⟨y2, h_y2, h⟩ := callK_inv h
  rw [cl_eq hcl (L_cmp_isNaN a_1 h_y2)]
  rotate_left
  · show _ = _
    kernel_rfl
  · show _ = _
    kernel_rfl
  conv => lhs; whnf
  cases hb3 : y1
  · replace h := ifF h (booF hb3)
    conv => lhs; whnf
    cases hb5 : y2
    · replace h := ifF h (booF hb5)
      conv => lhs; whnf
      cases hb6 : (decide (a_0 < a_1))
      · replace h := ifF h (decF hb6)
        conv => lhs; whnf
        cases hb7 : (decide (a_0 > a_1))
        · replace h := ifF h (decF hb7)
          conv => lhs; whnf
          obtain rfl := Option.some.inj h
          show _ = _
          kernel_rfl
        · replace h := ifT h (decT hb7)
          conv => lhs; whnf
          obtain rfl := Option.some.inj h
          show _ = _
          kernel_rfl
      · replace h := ifT h (decT hb6)
        conv => lhs; whnf
        obtain rfl := Option.some.inj h
        show _ = _
        kernel_rfl
    · replace h := ifT h hb5
      conv => lhs; whnf
      obtain rfl := Option.some.inj h
      show _ = _
      kernel_rfl
  · replace h := ifT h hb3
    conv => lhs; whnf
    cases hb4 : y2
    · replace h := ifF h (booF hb4)
      conv => lhs; whnf
      obtain rfl := Option.some.inj h
      show _ = _
      kernel_rfl
    · replace h := ifT h hb4
      conv => lhs; whnf
      obtain rfl := Option.some.inj h
      show _ = _
      kernel_rfl

noncomputable def p_cmp_Or (a_0 : List Int) : Option Int :=
  grd (a_0.length < 4611686018427387904) <|
  forK a_0 (fun (i5 : Nat) x7 (_ : Unit) (nx6 : Unit → Option _) =>
    if ¬ x7 = 0 then
      some x7
    else
      nx6 ()) () (fun (_ : Unit) =>
    some 0)

set_option maxHeartbeats 4000000 in
theorem L_cmp_Or (a_0 : List Int) {r : Int} (h : p_cmp_Or a_0 = some r) : callL E 205 [.d (.arr (a_0.map rI))] ([] : Fo) = some (IN r, ([] : Fo)) := by
  unfold p_cmp_Or at h
  refine callW (fu := Try.f205) rfl rfl rfl NN ?_
  intro lp cl hlp hcl
  conv => lhs; whnf
  try rw [len_of (l := a_0) (r := rI)]
  obtain ⟨hl_i5, h⟩ := grd_inv h
  refine loop_for hlp (l := a_0) hl_i5 (fun (i5 : Nat) (_ : Unit) => ([.dead, .dead, .dead, IN 0, .dead, .dead, .d (.arr (a_0.map rI)), IN (a_0.length : Int), IN (i5 : Int)] ++ List.replicate 9 .dead : List V)) (fun (i5 : Nat) (_ : Unit) => ([] : Fo)) (fun (r : Int) => ((IN r : V), ([] : Fo))) ?_ ?_ () _ (fun kk => by kernel_rfl) h
  · clear h
    rintro next_nx6 nx6 i5 hi_i5 hnx6 ⟨⟩ r h
    try dsimp only at h
    have hn_i5 : i5 < 4611686018427387904 := by omega
    have hx_x7 := get_map rI a_0 i5 hi_i5
    generalize a_0[i5] = x7 at h hx_x7
    have hd_i5 : (decide ((i5 : Int) < (a_0.length : Int))) = true := decide_eq_true (by omega)
    conv => lhs; whnf
    rw [hd_i5]
    conv => lhs; whnf
    try (rw [decide_eq_true hq_x7]; conv => lhs; whnf)
    rw [hx_x7]
    conv => lhs; whnf
    rw [hx_x7]
    conv => lhs; whnf
    cases hb8 : (x7 != 0)
    · replace h := ifF h ((fun h => not_not_intro (bneF h)) hb8)
      conv => lhs; whnf
      rw [wrap_nat i5 (by have := hn_i5; omega)]
      exact hnx6 _ _ _ _ (fun kk => by kernel_rfl) h
    · replace h := ifT h (bneT hb8)
      conv => lhs; whnf
      obtain rfl := Option.some.inj h
      show _ = _
      kernel_rfl
  · clear h
    rintro next_nx6 ⟨⟩ r h
    try dsimp only at h
    have hd_i5 : (decide ((a_0.length : Int) < (a_0.length : Int))) = false := decide_eq_false (by omega)
    conv => lhs; whnf
    rw [hd_i5]
    conv => lhs; whnf
    obtain rfl := Option.some.inj h
    show _ = _
    kernel_rfl

noncomputable def p_impl_compareRecords (a_0 : Record) (a_1 : Record) : Option Int :=
  callK (p_cmp_Compare a_1.Seq a_0.Seq) fun y1 =>
  callK (p_cmp_Compare a_0.Kind a_1.Kind) fun y2 =>
  callK (p_cmp_Or ([(cmpB a_0.Key a_1.Key), y1, y2, (cmpB a_0.Value a_1.Value), (cmpB a_0.End a_1.End)] : List Int)) fun y3 =>
  some y3

set_option maxHeartbeats 4000000 in
theorem L_impl_compareRecords (a_0 : Record) (a_1 : Record) {r : Int} (h : p_impl_compareRecords a_0 a_1 = some r) : callL E 128 [.agg [ST a_0.Key, IN a_0.Seq, IN a_0.Kind, ST a_0.Value, ST a_0.End], .agg [ST a_1.Key, IN a_1.Seq, IN a_1.Kind, ST a_1.Value, ST a_1.End]] ([] : Fo) = some (IN r, ([] : Fo)) := by
  unfold p_impl_compareRecords at h
  refine callW (fu := Try.f128) rfl rfl rfl NN ?_
  intro lp cl hlp hcl
  conv => lhs; whnf
  rw [cl_eq hcl (f_Compare a_0.Key a_1.Key)]
  rotate_left
  · exact rfl
  · exact rfl
  conv => lhs; whnf
  obtain ⟨y1, h_y1, h⟩ := callK_inv h
  rw [cl_eq hcl (L_cmp_Compare a_1.Seq a_0.Seq h_y1)]
  rotate_left
  · show _ = _
    kernel_rfl
  · show _ = _
    kernel_rfl
  conv => lhs; whnf
  obtain ⟨y2, h_y2, h⟩ := callK_inv h
  rw [cl_eq hcl (L_cmp_Compare a_0.Kind a_1.Kind h_y2)]
  rotate_left
  · show _ = _
    kernel_rfl
  · show _ = _
    kernel_rfl
  conv => lhs; whnf
  rw [cl_eq hcl (f_Compare a_0.Value a_1.Value)]
  rotate_left
  · exact rfl
  · exact rfl
  conv => lhs; whnf
  rw [cl_eq hcl (f_Compare a_0.End a_1.End)]
  rotate_left
  · exact rfl
  · exact rfl
  conv => lhs; whnf
  obtain ⟨y3, h_y3, h⟩ := callK_inv h
  rw [cl_eq hcl (L_cmp_Or ([(cmpB a_0.Key a_1.Key), y1, y2, (cmpB a_0.Value a_1.Value), (cmpB a_0.End a_1.End)] : List Int) h_y3)]
  rotate_left
  · show _ = _
    kernel_rfl
  · show _ = _
    kernel_rfl
  conv => lhs; whnf
  obtain rfl := Option.some.inj h
  show _ = _
  kernel_rfl

noncomputable def p_impl_LessRecord (a_0 : Record) (a_1 : Record) : Option Bool :=
  callK (p_impl_compareRecords a_0 a_1) fun y1 =>
  some (decide (y1 < 0))

set_option maxHeartbeats 4000000 in
theorem L_impl_LessRecord (a_0 : Record) (a_1 : Record) {r : Bool} (h : p_impl_LessRecord a_0 a_1 = some r) : callL E 51 [.agg [ST a_0.Key, IN a_0.Seq, IN a_0.Kind, ST a_0.Value, ST a_0.End], .agg [ST a_1.Key, IN a_1.Seq, IN a_1.Kind, ST a_1.Value, ST a_1.End]] ([] : Fo) = some (BO r, ([] : Fo)) := by
  unfold p_impl_LessRecord at h
  refine callW (fu := Try.f51) rfl rfl rfl NN ?_
  intro lp cl hlp hcl
  conv => lhs; whnf
  obtain ⟨y1, h_y1, h⟩ := callK_inv h
  rw [cl_eq hcl (L_impl_compareRecords a_0 a_1 h_y1)]
  rotate_left
  · show _ = _
    kernel_rfl
  · show _ = _
    kernel_rfl
  conv => lhs; whnf
  obtain rfl := Option.some.inj h
  show _ = _
  kernel_rfl

noncomputable def p_impl_ValidRun (a_0 : List Record) : Option Bool :=
  grd (a_0.length < 4611686018427387904) <|
  forK a_0 (fun (i12 : Nat) x15 (v13 : List (Int × Bool)) (nx14 : (List (Int × Bool)) → Option _) =>
    callK (p_impl_ValidRecord x15) fun y16 =>
    if y16 = true then
      if (mgetT v13 x15.Seq false) = true then
        some false
      else
        if (i12 : Int) > 0 then
          getK a_0 (IntKind.i64.wrap ((i12 : Int) - 1)) fun x20 =>
          callK (p_impl_LessRecord x20 x15) fun y21 =>
          if y21 = true then
            nx14 (mputT v13 x15.Seq true)
          else
            some false
        else
          nx14 (mputT v13 x15.Seq true)
    else
      some false) ([] : List (Int × Bool)) (fun (v13 : List (Int × Bool)) =>
    some true)

set_option maxHeartbeats 4000000 in
theorem L_impl_ValidRun (a_0 : List Record) {r : Bool} (h : p_impl_ValidRun a_0 = some r) : callL E 20 [.d (.arr (a_0.map rRecord))] ([] : Fo) = some (BO r, ([] : Fo)) := by
  unfold p_impl_ValidRun at h
  refine callW (fu := Try.f20) rfl rfl rfl NN ?_
  intro lp cl hlp hcl
  conv => lhs; whnf
  try rw [len_of (l := a_0) (r := rRecord)]
  obtain ⟨hl_i12, h⟩ := grd_inv h
  refine loop_for hlp (l := a_0) hl_i12 (fun (i12 : Nat) (v13 : List (Int × Bool)) => ([.d (.arr (a_0.map rRecord)), .dead, .dead, .mp 0, .dead, .dead, .dead, .d (.arr (a_0.map rRecord)), IN (a_0.length : Int), IN (i12 : Int)] ++ List.replicate 31 .dead : List V)) (fun (i12 : Nat) (v13 : List (Int × Bool)) => ([some (.mp .i64 (mE dB v13))] : Fo)) (fun (r : Bool) => ((BO r : V), ([] : Fo))) ?_ ?_ ([] : List (Int × Bool)) _ (fun kk => by kernel_rfl) h
  · clear h
    rintro next_nx14 nx14 i12 hi_i12 hnx14 v13 r h
    try dsimp only at h
    have hn_i12 : i12 < 4611686018427387904 := by omega
    have hx_x15 := get_map rRecord a_0 i12 hi_i12
    generalize a_0[i12] = x15 at h hx_x15
    have hd_i12 : (decide ((i12 : Int) < (a_0.length : Int))) = true := decide_eq_true (by omega)
    conv => lhs; whnf
    rw [hd_i12]
    conv => lhs; whnf
    try (rw [decide_eq_true hq_x15]; conv => lhs; whnf)
    rw [hx_x15]
    conv => lhs; whnf
    rw [hx_x15]
    conv => lhs; whnf
    obtain ⟨y16, h_y16, h⟩ := callK_inv h
    rw [cl_eq hcl (L_impl_ValidRecord x15 h_y16)]
    rotate_left
    · show _ = _
      kernel_rfl
    · show _ = _
      kernel_rfl
    conv => lhs; whnf
    cases hb17 : y16
    · replace h := ifF h (booF hb17)
      conv => lhs; whnf
      try (rw [hb17]; conv => lhs; whnf)
      try (rw [hb17]; conv => lhs; whnf)
      try (rw [hb17]; conv => lhs; whnf)
      try (rw [hb17]; conv => lhs; whnf)
      obtain rfl := Option.some.inj h
      show _ = _
      kernel_rfl
    · replace h := ifT h hb17
      conv => lhs; whnf
      try (rw [hb17]; conv => lhs; whnf)
      try (rw [hb17]; conv => lhs; whnf)
      try (rw [hb17]; conv => lhs; whnf)
      try rw [mgetD_of (f := dB) (l := v13) (n := x15.Seq) (z := false)]
      try (rw [hb17]; conv => lhs; whnf)
      cases hb18 : (mgetT v13 x15.Seq false)
      · replace h := ifF h (booF hb18)
        conv => lhs; whnf
        try (rw [hb18]; conv => lhs; whnf)
        try (rw [hb18]; conv => lhs; whnf)
        cases hb19 : (decide ((i12 : Int) > 0))
        · replace h := ifF h (decF hb19)
          conv => lhs; whnf
          try (rw [hb19]; conv => lhs; whnf)
          try (rw [hb19]; conv => lhs; whnf)
          try (rw [hb19]; conv => lhs; whnf)
          try (rw [hb19]; conv => lhs; whnf)
          try (rw [hb19]; conv => lhs; whnf)
          try (rw [hb19]; conv => lhs; whnf)
          try (rw [hb19]; conv => lhs; whnf)
          try (rw [hb18]; conv => lhs; whnf)
          try (rw [hb19]; conv => lhs; whnf)
          try (rw [hb18]; conv => lhs; whnf)
          try rw [mput_of (f := dB) (l := v13) (n := x15.Seq) (x := true) (y := _) rfl]
          rw [wrap_nat i12 (by have := hn_i12; omega)]
          exact hnx14 _ _ _ _ (fun kk => by kernel_rfl) h
        · replace h := ifT h (decT hb19)
          conv => lhs; whnf
          try (rw [hb19]; conv => lhs; whnf)
          try (rw [hb19]; conv => lhs; whnf)
          try (rw [hb19]; conv => lhs; whnf)
          obtain ⟨x20, hq_x20, hx_x20', h⟩ := getK_inv h
          have hx_x20 := get_of (r := rRecord) hx_x20'
          try (rw [decide_eq_true hq_x20]; conv => lhs; whnf)
          rw [hx_x20]
          conv => lhs; whnf
          try (rw [hb19]; conv => lhs; whnf)
          rw [hx_x20]
          conv => lhs; whnf
          try (rw [hb19]; conv => lhs; whnf)
          try (rw [hb19]; conv => lhs; whnf)
          obtain ⟨y21, h_y21, h⟩ := callK_inv h
          rw [cl_eq hcl (L_impl_LessRecord x20 x15 h_y21)]
          rotate_left
          · show _ = _
            kernel_rfl
          · show _ = _
            kernel_rfl
          conv => lhs; whnf
          try (rw [hb19]; conv => lhs; whnf)
          try (rw [hb18]; conv => lhs; whnf)
          try (rw [hb19]; conv => lhs; whnf)
          try (rw [hb18]; conv => lhs; whnf)
          cases hb22 : y21
          · replace h := ifF h (booF hb22)
            conv => lhs; whnf
            obtain rfl := Option.some.inj h
            show _ = _
            kernel_rfl
          · replace h := ifT h hb22
            conv => lhs; whnf
            try rw [mput_of (f := dB) (l := v13) (n := x15.Seq) (x := true) (y := _) rfl]
            rw [wrap_nat i12 (by have := hn_i12; omega)]
            exact hnx14 _ _ _ _ (fun kk => by kernel_rfl) h
      · replace h := ifT h hb18
        conv => lhs; whnf
        try (rw [hb18]; conv => lhs; whnf)
        try (rw [hb18]; conv => lhs; whnf)
        try (rw [hb18]; conv => lhs; whnf)
        try (rw [hb18]; conv => lhs; whnf)
        obtain rfl := Option.some.inj h
        show _ = _
        kernel_rfl
  · clear h
    rintro next_nx14 v13 r h
    try dsimp only at h
    have hd_i12 : (decide ((a_0.length : Int) < (a_0.length : Int))) = false := decide_eq_false (by omega)
    conv => lhs; whnf
    rw [hd_i12]
    conv => lhs; whnf
    obtain rfl := Option.some.inj h
    show _ = _
    kernel_rfl

noncomputable def p_impl_increasing (a_0 : List Int) : Option Bool :=
  iterK (fun (v1 : Int) (nx2 : Int → Option _) =>
    if v1 < (a_0.length : Int) then
      getK a_0 v1 fun x4 =>
      getK a_0 (IntKind.i64.wrap (v1 - 1)) fun x5 =>
      if x4 ≤ x5 then
        some false
      else
        nx2 (IntKind.i64.wrap (v1 + 1))
    else
      some true) NN 1

set_option maxHeartbeats 4000000 in
theorem L_impl_increasing (a_0 : List Int) {r : Bool} (h : p_impl_increasing a_0 = some r) : callL E 163 [.d (.arr (a_0.map rI))] ([] : Fo) = some (BO r, ([] : Fo)) := by
  unfold p_impl_increasing at h
  refine callW (fu := Try.f163) rfl rfl rfl NN ?_
  intro lp cl hlp hcl
  conv => lhs; whnf
  refine loop_iter hlp (fun (v1 : Int) => ([.d (.arr (a_0.map rI)), .dead, .dead, IN v1] ++ List.replicate 16 .dead : List V)) (fun (v1 : Int) => ([] : Fo)) (fun (r : Bool) => ((BO r : V), ([] : Fo))) ?_ 1 _ (fun kk => by kernel_rfl) h
  clear h
  rintro next_nx2 nx2 hnx2 v1 r h
  try dsimp only at h
  conv => lhs; whnf
  try rw [len_of (l := a_0) (r := rI)]
  cases hb3 : (decide (v1 < (a_0.length : Int)))
  · replace h := ifF h (decF hb3)
    conv => lhs; whnf
    obtain rfl := Option.some.inj h
    show _ = _
    kernel_rfl
  · replace h := ifT h (decT hb3)
    conv => lhs; whnf
    obtain ⟨x4, hq_x4, hx_x4', h⟩ := getK_inv h
    have hx_x4 := get_of (r := rI) hx_x4'
    try (rw [decide_eq_true hq_x4]; conv => lhs; whnf)
    rw [hx_x4]
    conv => lhs; whnf
    rw [hx_x4]
    conv => lhs; whnf
    obtain ⟨x5, hq_x5, hx_x5', h⟩ := getK_inv h
    have hx_x5 := get_of (r := rI) hx_x5'
    try (rw [decide_eq_true hq_x5]; conv => lhs; whnf)
    rw [hx_x5]
    conv => lhs; whnf
    rw [hx_x5]
    conv => lhs; whnf
    cases hb6 : (decide (x4 ≤ x5))
    · replace h := ifF h (decF hb6)
      conv => lhs; whnf
      exact hnx2 _ _ _ _ (fun kk => by kernel_rfl) h
    · replace h := ifT h (decT hb6)
      conv => lhs; whnf
      obtain rfl := Option.some.inj h
      show _ = _
      kernel_rfl

noncomputable def p_impl_allWithin_c1 (a_0 : Int) (a_1 : Int) (a_2 : Int) : Option Bool :=
  some (!(inR a_0 a_1 a_2))

set_option maxHeartbeats 4000000 in
theorem L_impl_allWithin_c1 (a_0 : Int) (a_1 : Int) (a_2 : Int) {r : Bool} (h : p_impl_allWithin_c1 a_0 a_1 a_2 = some r) : callL E 222 [IN a_0, .bp 0 0, .bp 1 0] ([some (.box [IN a_1]), some (.box [IN a_2])] : Fo) = some (BO r, ([some (.box [IN a_1]), some (.box [IN a_2])] : Fo)) := by
  unfold p_impl_allWithin_c1 at h
  refine callW (fu := Try.f222) rfl rfl rfl NN ?_
  intro lp cl hlp hcl
  conv => lhs; whnf
  rw [cl_eq hcl (L_impl_within a_0 a_1 a_2 (pl_within a_0 a_1 a_2))]
  rotate_left
  · show _ = _
    kernel_rfl
  · show _ = _
    kernel_rfl
  conv => lhs; whnf
  obtain rfl := Option.some.inj h
  show _ = _
  kernel_rfl

noncomputable def p_slices_IndexFunc_impl_allWithin_c1 (a_0 : List Int) (a_1 : Int) (a_2 : Int) : Option Int :=
  grd (a_0.length < 4611686018427387904) <|
  forK a_0 (fun (i6 : Nat) x8 (_ : Unit) (nx7 : Unit → Option _) =>
    callK (p_impl_allWithin_c1 x8 a_1 a_2) fun y9 =>
    if y9 = true then
      some (i6 : Int)
    else
      nx7 ()) () (fun (_ : Unit) =>
    some (-1))

set_option maxHeartbeats 4000000 in
theorem L_slices_IndexFunc_impl_allWithin_c1 (a_0 : List Int) (a_1 : Int) (a_2 : Int) {r : Int} (h : p_slices_IndexFunc_impl_allWithin_c1 a_0 a_1 a_2 = some r) : callL E 210 [.d (.arr (a_0.map rI)), .clo 222 [.bp 0 0, .bp 1 0]] ([some (.box [IN a_1]), some (.box [IN a_2])] : Fo) = some (IN r, ([some (.box [IN a_1]), some (.box [IN a_2])] : Fo)) := by
  unfold p_slices_IndexFunc_impl_allWithin_c1 at h
  refine callW (fu := Try.f210) rfl rfl rfl NN ?_
  intro lp cl hlp hcl
  conv => lhs; whnf
  try rw [len_of (l := a_0) (r := rI)]
  obtain ⟨hl_i6, h⟩ := grd_inv h
  refine loop_for hlp (l := a_0) hl_i6 (fun (i6 : Nat) (_ : Unit) => ([.d (.arr (a_0.map rI)), .clo 222 [.bp 0 0, .bp 1 0], .dead, .dead, .dead, .dead, .dead, IN (a_0.length : Int), IN (i6 : Int)] ++ List.replicate 10 .dead : List V)) (fun (i6 : Nat) (_ : Unit) => ([some (.box [IN a_1]), some (.box [IN a_2])] : Fo)) (fun (r : Int) => ((IN r : V), ([some (.box [IN a_1]), some (.box [IN a_2])] : Fo))) ?_ ?_ () _ (fun kk => by kernel_rfl) h
  · clear h
    rintro next_nx7 nx7 i6 hi_i6 hnx7 ⟨⟩ r h
    try dsimp only at h
    have hn_i6 : i6 < 4611686018427387904 := by omega
    have hx_x8 := get_map rI a_0 i6 hi_i6
    generalize a_0[i6] = x8 at h hx_x8
    have hd_i6 : (decide ((i6 : Int) < (a_0.length : Int))) = true := decide_eq_true (by omega)
    conv => lhs; whnf
    rw [hd_i6]
    conv => lhs; whnf
    try (rw [decide_eq_true hq_x8]; conv => lhs; whnf)
    rw [hx_x8]
    conv => lhs; whnf
    rw [hx_x8]
    conv => lhs; whnf
    obtain ⟨y9, h_y9, h⟩ := callK_inv h
    rw [cl_eq hcl (L_impl_allWithin_c1 x8 a_1 a_2 h_y9)]
    rotate_left
    · show _ = _
      kernel_rfl
    · show _ = _
      kernel_rfl
    conv => lhs; whnf
    cases hb10 : y9
    · replace h := ifF h (booF hb10)
      conv => lhs; whnf
      rw [wrap_nat i6 (by have := hn_i6; omega)]
      exact hnx7 _ _ _ _ (fun kk => by kernel_rfl) h
    · replace h := ifT h hb10
      conv => lhs; whnf
      obtain rfl := Option.some.inj h
      show _ = _
      kernel_rfl
  · clear h
    rintro next_nx7 ⟨⟩ r h
    try dsimp only at h
    have hd_i6 : (decide ((a_0.length : Int) < (a_0.length : Int))) = false := decide_eq_false (by omega)
    conv => lhs; whnf
    rw [hd_i6]
    conv => lhs; whnf
    obtain rfl := Option.some.inj h
    show _ = _
    kernel_rfl

noncomputable def p_slices_ContainsFunc_impl_allWithin_c1 (a_0 : List Int) (a_1 : Int) (a_2 : Int) : Option Bool :=
  callK (p_slices_IndexFunc_impl_allWithin_c1 a_0 a_1 a_2) fun y1 =>
  some (decide (y1 ≥ 0))

set_option maxHeartbeats 4000000 in
theorem L_slices_ContainsFunc_impl_allWithin_c1 (a_0 : List Int) (a_1 : Int) (a_2 : Int) {r : Bool} (h : p_slices_ContainsFunc_impl_allWithin_c1 a_0 a_1 a_2 = some r) : callL E 139 [.d (.arr (a_0.map rI)), .clo 222 [.bp 0 0, .bp 1 0]] ([some (.box [IN a_1]), some (.box [IN a_2])] : Fo) = some (BO r, ([some (.box [IN a_1]), some (.box [IN a_2])] : Fo)) := by
  unfold p_slices_ContainsFunc_impl_allWithin_c1 at h
  refine callW (fu := Try.f139) rfl rfl rfl NN ?_
  intro lp cl hlp hcl
  conv => lhs; whnf
  obtain ⟨y1, h_y1, h⟩ := callK_inv h
  rw [cl_eq hcl (L_slices_IndexFunc_impl_allWithin_c1 a_0 a_1 a_2 h_y1)]
  rotate_left
  · show _ = _
    kernel_rfl
  · show _ = _
    kernel_rfl
  conv => lhs; whnf
  obtain rfl := Option.some.inj h
  show _ = _
  kernel_rfl

noncomputable def p_impl_allWithin (a_0 : List Int) (a_1 : Int) (a_2 : Int) : Option Bool :=
  callK (p_slices_ContainsFunc_impl_allWithin_c1 a_0 a_1 a_2) fun y1 =>
  some (!y1)

set_option maxHeartbeats 4000000 in
theorem L_impl_allWithin (a_0 : List Int) (a_1 : Int) (a_2 : Int) {r : Bool} (h : p_impl_allWithin a_0 a_1 a_2 = some r) : callL E 164 [.d (.arr (a_0.map rI)), IN a_1, IN a_2] ([] : Fo) = some (BO r, ([] : Fo)) := by
  unfold p_impl_allWithin at h
  refine callW (fu := Try.f164) rfl rfl rfl NN ?_
  intro lp cl hlp hcl
  conv => lhs; whnf
  obtain ⟨y1, h_y1, h⟩ := callK_inv h
  rw [cl_eq hcl (L_slices_ContainsFunc_impl_allWithin_c1 a_0 a_1 a_2 h_y1)]
  rotate_left
  · show _ = _
    kernel_rfl
  · show _ = _
    kernel_rfl
  conv => lhs; whnf
  obtain rfl := Option.some.inj h
  show _ = _
  kernel_rfl

noncomputable def p_impl_snapshotsOk (a_0 : List Int) : Option Bool :=
  if (a_0.length : Int) ≤ 4 then
    callK (p_impl_increasing a_0) fun y2 =>
    if y2 = true then
      callK (p_impl_allWithin a_0 0 1000000) fun y4 =>
      some y4
    else
      some false
  else
    some false

set_option maxHeartbeats 4000000 in
theorem L_impl_snapshotsOk (a_0 : List Int) {r : Bool} (h : p_impl_snapshotsOk a_0 = some r) : callL E 84 [.d (.arr (a_0.map rI))] ([] : Fo) = some (BO r, ([] : Fo)) := by
  unfold p_impl_snapshotsOk at h
  refine callW (fu := Try.f84) rfl rfl rfl NN ?_
  intro lp cl hlp hcl
  conv => lhs; whnf
  try rw [len_of (l := a_0) (r := rI)]
  cases hb1 : (decide ((a_0.length : Int) ≤ 4))
  · replace h := ifF h (decF hb1)
    conv => lhs; whnf
    try (rw [hb1]; conv => lhs; whnf)
    try (rw [hb1]; conv => lhs; whnf)
    obtain rfl := Option.some.inj h
    show _ = _
    kernel_rfl
  · replace h := ifT h (decT hb1)
    conv => lhs; whnf
    try (rw [hb1]; conv => lhs; whnf)
    obtain ⟨y2, h_y2, h⟩ := callK_inv h
    rw [cl_eq hcl (L_impl_increasing a_0 h_y2)]
    rotate_left
    · show _ = _
      kernel_rfl
    · show _ = _
      kernel_rfl
    conv => lhs; whnf
    try (rw [hb1]; conv => lhs; whnf)
    cases hb3 : y2
    · replace h := ifF h (booF hb3)
      conv => lhs; whnf
      try (rw [hb3]; conv => lhs; whnf)
      try (rw [hb3]; conv => lhs; whnf)
      obtain rfl := Option.some.inj h
      show _ = _
      kernel_rfl
    · replace h := ifT h hb3
      conv => lhs; whnf
      try (rw [hb3]; conv => lhs; whnf)
      obtain ⟨y4, h_y4, h⟩ := callK_inv h
      rw [cl_eq hcl (L_impl_allWithin a_0 0 1000000 h_y4)]
      rotate_left
      · show _ = _
        kernel_rfl
      · show _ = _
        kernel_rfl
      conv => lhs; whnf
      try (rw [hb3]; conv => lhs; whnf)
      obtain rfl := Option.some.inj h
      show _ = _
      kernel_rfl

noncomputable def p_impl_isRange (a_0 : Record) : Option Bool :=
  some (a_0.Kind == 3)

set_option maxHeartbeats 4000000 in
theorem L_impl_isRange (a_0 : Record) {r : Bool} (h : p_impl_isRange a_0 = some r) : callL E 166 [.agg [ST a_0.Key, IN a_0.Seq, IN a_0.Kind, ST a_0.Value, ST a_0.End]] ([] : Fo) = some (BO r, ([] : Fo)) := by
  unfold p_impl_isRange at h
  refine callW (fu := Try.f166) rfl rfl rfl NN ?_
  intro lp cl hlp hcl
  conv => lhs; whnf
  obtain rfl := Option.some.inj h
  show _ = _
  kernel_rfl

noncomputable def p_impl_Record_affects (a_0 : Record) (a_1 : ByteArray) : Option Bool :=
  if a_0.Kind = 3 then
    if ((Op.bytesLess a_0.Key.toList a_1.toList) || (a_0.Key.toList == a_1.toList)) = true then
      some (Op.bytesLess a_1.toList a_0.End.toList)
    else
      some false
  else
    some (a_0.Key.toList == a_1.toList)

set_option maxHeartbeats 4000000 in
theorem L_impl_Record_affects (a_0 : Record) (a_1 : ByteArray) {r : Bool} (h : p_impl_Record_affects a_0 a_1 = some r) : callL E 172 [.agg [ST a_0.Key, IN a_0.Seq, IN a_0.Kind, ST a_0.Value, ST a_0.End], ST a_1] ([] : Fo) = some (BO r, ([] : Fo)) := by
  unfold p_impl_Record_affects at h
  refine callW (fu := Try.f172) rfl rfl rfl NN ?_
  intro lp cl hlp hcl
  conv => lhs; whnf
  cases hb1 : (a_0.Kind == 3)
  · replace h := ifF h (beqF hb1)
    conv => lhs; whnf
    obtain rfl := Option.some.inj h
    show _ = _
    kernel_rfl
  · replace h := ifT h (beqT hb1)
    conv => lhs; whnf
    cases hb2 : ((Op.bytesLess a_0.Key.toList a_1.toList) || (a_0.Key.toList == a_1.toList))
    · replace h := ifF h (booF hb2)
      conv => lhs; whnf
      try (rw [hb2]; conv => lhs; whnf)
      try (rw [hb2]; conv => lhs; whnf)
      try (rw [hb2]; conv => lhs; whnf)
      try (rw [hb2]; conv => lhs; whnf)
      obtain rfl := Option.some.inj h
      show _ = _
      kernel_rfl
    · replace h := ifT h hb2
      conv => lhs; whnf
      try (rw [hb2]; conv => lhs; whnf)
      try (rw [hb2]; conv => lhs; whnf)
      try (rw [hb2]; conv => lhs; whnf)
      try (rw [hb2]; conv => lhs; whnf)
      obtain rfl := Option.some.inj h
      show _ = _
      kernel_rfl

noncomputable def p_impl_hidden_c1 (a_0 : Int) (a_1 : Record) (a_2 : Int) : Option Bool :=
  if a_1.Seq ≤ a_0 then
    some (decide (a_0 < a_2))
  else
    some false

set_option maxHeartbeats 4000000 in
theorem L_impl_hidden_c1 (a_0 : Int) (a_1 : Record) (a_2 : Int) {r : Bool} (h : p_impl_hidden_c1 a_0 a_1 a_2 = some r) : callL E 223 [IN a_0, .bp 0 0, .bp 1 0] ([some (.box [ST a_1.Key, IN a_1.Seq, IN a_1.Kind, ST a_1.Value, ST a_1.End]), some (.box [IN a_2])] : Fo) = some (BO r, ([some (.box [ST a_1.Key, IN a_1.Seq, IN a_1.Kind, ST a_1.Value, ST a_1.End]), some (.box [IN a_2])] : Fo)) := by
  unfold p_impl_hidden_c1 at h
  refine callW (fu := Try.f223) rfl rfl rfl NN ?_
  intro lp cl hlp hcl
  conv => lhs; whnf
  cases hb1 : (decide (a_1.Seq ≤ a_0))
  · replace h := ifF h (decF hb1)
    conv => lhs; whnf
    try (rw [hb1]; conv => lhs; whnf)
    try (rw [hb1]; conv => lhs; whnf)
    try (rw [hb1]; conv => lhs; whnf)
    obtain rfl := Option.some.inj h
    show _ = _
    kernel_rfl
  · replace h := ifT h (decT hb1)
    conv => lhs; whnf
    try (rw [hb1]; conv => lhs; whnf)
    try (rw [hb1]; conv => lhs; whnf)
    try (rw [hb1]; conv => lhs; whnf)
    obtain rfl := Option.some.inj h
    show _ = _
    kernel_rfl

noncomputable def p_slices_IndexFunc_impl_hidden_c1 (a_0 : List Int) (a_1 : Record) (a_2 : Int) : Option Int :=
  grd (a_0.length < 4611686018427387904) <|
  forK a_0 (fun (i6 : Nat) x8 (_ : Unit) (nx7 : Unit → Option _) =>
    callK (p_impl_hidden_c1 x8 a_1 a_2) fun y9 =>
    if y9 = true then
      some (i6 : Int)
    else
      nx7 ()) () (fun (_ : Unit) =>
    some (-1))

set_option maxHeartbeats 4000000 in
theorem L_slices_IndexFunc_impl_hidden_c1 (a_0 : List Int) (a_1 : Record) (a_2 : Int) {r : Int} (h : p_slices_IndexFunc_impl_hidden_c1 a_0 a_1 a_2 = some r) : callL E 210 [.d (.arr (a_0.map rI)), .clo 223 [.bp 0 0, .bp 1 0]] ([some (.box [ST a_1.Key, IN a_1.Seq, IN a_1.Kind, ST a_1.Value, ST a_1.End]), some (.box [IN a_2])] : Fo) = some (IN r, ([some (.box [ST a_1.Key, IN a_1.Seq, IN a_1.Kind, ST a_1.Value, ST a_1.End]), some (.box [IN a_2])] : Fo)) := by
  unfold p_slices_IndexFunc_impl_hidden_c1 at h
  refine callW (fu := Try.f210) rfl rfl rfl NN ?_
  intro lp cl hlp hcl
  conv => lhs; whnf
  try rw [len_of (l := a_0) (r := rI)]
  obtain ⟨hl_i6, h⟩ := grd_inv h
  refine loop_for hlp (l := a_0) hl_i6 (fun (i6 : Nat) (_ : Unit) => ([.d (.arr (a_0.map rI)), .clo 223 [.bp 0 0, .bp 1 0], .dead, .dead, .dead, .dead, .dead, IN (a_0.length : Int), IN (i6 : Int)] ++ List.replicate 10 .dead : List V)) (fun (i6 : Nat) (_ : Unit) => ([some (.box [ST a_1.Key, IN a_1.Seq, IN a_1.Kind, ST a_1.Value, ST a_1.End]), some (.box [IN a_2])] : Fo)) (fun (r : Int) => ((IN r : V), ([some (.box [ST a_1.Key, IN a_1.Seq, IN a_1.Kind, ST a_1.Value, ST a_1.End]), some (.box [IN a_2])] : Fo))) ?_ ?_ () _ (fun kk => by kernel_rfl) h
  · clear h
    rintro next_nx7 nx7 i6 hi_i6 hnx7 ⟨⟩ r h
    try dsimp only at h
    have hn_i6 : i6 < 4611686018427387904 := by omega
    have hx_x8 := get_map rI a_0 i6 hi_i6
    generalize a_0[i6] = x8 at h hx_x8
    have hd_i6 : (decide ((i6 : Int) < (a_0.length : Int))) = true := decide_eq_true (by omega)
    conv => lhs; whnf
    rw [hd_i6]
    conv => lhs; whnf
    try (rw [decide_eq_true hq_x8]; conv => lhs; whnf)
    rw [hx_x8]
    conv => lhs; whnf
    rw [hx_x8]
    conv => lhs; whnf
    obtain ⟨y9, h_y9, h⟩ := callK_inv h
    rw [cl_eq hcl (L_impl_hidden_c1 x8 a_1 a_2 h_y9)]
    rotate_left
    · show _ = _
      kernel_rfl
    · show _ = _
      kernel_rfl
    conv => lhs; whnf
    cases hb10 : y9
    · replace h := ifF h (booF hb10)
      conv => lhs; whnf
      rw [wrap_nat i6 (by have := hn_i6; omega)]
      exact hnx7 _ _ _ _ (fun kk => by kernel_rfl) h
    · replace h := ifT h hb10
      conv => lhs; whnf
      obtain rfl := Option.some.inj h
      show _ = _
      kernel_rfl
  · clear h
    rintro next_nx7 ⟨⟩ r h
    try dsimp only at h
    have hd_i6 : (decide ((a_0.length : Int) < (a_0.length : Int))) = false := decide_eq_false (by omega)
    conv => lhs; whnf
    rw [hd_i6]
    conv => lhs; whnf
    obtain rfl := Option.some.inj h
    show _ = _
    kernel_rfl

noncomputable def p_slices_ContainsFunc_impl_hidden_c1 (a_0 : List Int) (a_1 : Record) (a_2 : Int) : Option Bool :=
  callK (p_slices_IndexFunc_impl_hidden_c1 a_0 a_1 a_2) fun y1 =>
  some (decide (y1 ≥ 0))

set_option maxHeartbeats 4000000 in
theorem L_slices_ContainsFunc_impl_hidden_c1 (a_0 : List Int) (a_1 : Record) (a_2 : Int) {r : Bool} (h : p_slices_ContainsFunc_impl_hidden_c1 a_0 a_1 a_2 = some r) : callL E 139 [.d (.arr (a_0.map rI)), .clo 223 [.bp 0 0, .bp 1 0]] ([some (.box [ST a_1.Key, IN a_1.Seq, IN a_1.Kind, ST a_1.Value, ST a_1.End]), some (.box [IN a_2])] : Fo) = some (BO r, ([some (.box [ST a_1.Key, IN a_1.Seq, IN a_1.Kind, ST a_1.Value, ST a_1.End]), some (.box [IN a_2])] : Fo)) := by
  unfold p_slices_ContainsFunc_impl_hidden_c1 at h
  refine callW (fu := Try.f139) rfl rfl rfl NN ?_
  intro lp cl hlp hcl
  conv => lhs; whnf
  obtain ⟨y1, h_y1, h⟩ := callK_inv h
  rw [cl_eq hcl (L_slices_IndexFunc_impl_hidden_c1 a_0 a_1 a_2 h_y1)]
  rotate_left
  · show _ = _
    kernel_rfl
  · show _ = _
    kernel_rfl
  conv => lhs; whnf
  obtain rfl := Option.some.inj h
  show _ = _
  kernel_rfl

noncomputable def p_impl_hidden (a_0 : List Record) (a_1 : Record) (a_2 : List Int) : Option Bool :=
  grd (a_0.length < 4611686018427387904) <|
  forK a_0 (fun (i10 : Nat) x13 (v11 : Int) (nx12 : Int → Option _) =>
    if x13.Seq > a_1.Seq then
      callK (p_impl_Record_affects x13 a_1.Key) fun y15 =>
      if y15 = true then
        if v11 = 0 then
          nx12 x13.Seq
        else
          if x13.Seq < v11 then
            nx12 x13.Seq
          else
            nx12 v11
      else
        nx12 v11
    else
      nx12 v11) 0 (fun (v11 : Int) =>
    if v11 > 0 then
      callK (p_slices_ContainsFunc_impl_hidden_c1 a_2 a_1 v11) fun y20 =>
      some (!y20)
    else
      some false)

set_option maxHeartbeats 4000000 in
theorem L_impl_hidden (a_0 : List Record) (a_1 : Record) (a_2 : List Int) {r : Bool} (h : p_impl_hidden a_0 a_1 a_2 = some r) : callL E 167 [.d (.arr (a_0.map rRecord)), .agg [ST a_1.Key, IN a_1.Seq, IN a_1.Kind, ST a_1.Value, ST a_1.End], .d (.arr (a_2.map rI))] ([] : Fo) = some (BO r, ([] : Fo)) := by
  unfold p_impl_hidden at h
  refine callW (fu := Try.f167) rfl rfl rfl NN ?_
  intro lp cl hlp hcl
  conv => lhs; whnf
  try rw [len_of (l := a_0) (r := rRecord)]
  obtain ⟨hl_i10, h⟩ := grd_inv h
  refine loop_for hlp (l := a_0) hl_i10 (fun (i10 : Nat) (v11 : Int) => ([.dead, .dead, .d (.arr (a_2.map rI)), .dead, .bp 0 0, .dead, .dead, .bp 1 0, .dead, .dead, .d (.arr (a_0.map rRecord)), IN (a_0.length : Int), IN (i10 : Int)] ++ List.replicate 35 .dead : List V)) (fun (i10 : Nat) (v11 : Int) => ([some (.box [ST a_1.Key, IN a_1.Seq, IN a_1.Kind, ST a_1.Value, ST a_1.End]), some (.box [IN v11])] : Fo)) (fun (r : Bool) => ((BO r : V), ([] : Fo))) ?_ ?_ 0 _ (fun kk => by kernel_rfl) h
  · clear h
    rintro next_nx12 nx12 i10 hi_i10 hnx12 v11 r h
    try dsimp only at h
    have hn_i10 : i10 < 4611686018427387904 := by omega
    have hx_x13 := get_map rRecord a_0 i10 hi_i10
    generalize a_0[i10] = x13 at h hx_x13
    have hd_i10 : (decide ((i10 : Int) < (a_0.length : Int))) = true := decide_eq_true (by omega)
    conv => lhs; whnf
    rw [hd_i10]
    conv => lhs; whnf
    try (rw [decide_eq_true hq_x13]; conv => lhs; whnf)
    rw [hx_x13]
    conv => lhs; whnf
    rw [hx_x13]
    conv => lhs; whnf
    cases hb14 : (decide (x13.Seq > a_1.Seq))
    · replace h := ifF h (decF hb14)
      conv => lhs; whnf
      try (rw [hb14]; conv => lhs; whnf)
      try (rw [hb14]; conv => lhs; whnf)
      try (rw [hb14]; conv => lhs; whnf)
      try (rw [hb14]; conv => lhs; whnf)
      rw [wrap_nat i10 (by have := hn_i10; omega)]
      exact hnx12 _ _ _ _ (fun kk => by kernel_rfl) h
    · replace h := ifT h (decT hb14)
      conv => lhs; whnf
      try (rw [hb14]; conv => lhs; whnf)
      try (rw [hb14]; conv => lhs; whnf)
      try (rw [hb14]; conv => lhs; whnf)
      obtain ⟨y15, h_y15, h⟩ := callK_inv h
      rw [cl_eq hcl (L_impl_Record_affects x13 a_1.Key h_y15)]
      rotate_left
      · show _ = _
        kernel_rfl
      · show _ = _
        kernel_rfl
      conv => lhs; whnf
      try (rw [hb14]; conv => lhs; whnf)
      cases hb16 : y15
      · replace h := ifF h (booF hb16)
        conv => lhs; whnf
        try (rw [hb16]; conv => lhs; whnf)
        try (rw [hb16]; conv => lhs; whnf)
        try (rw [hb16]; conv => lhs; whnf)
        try (rw [hb16]; conv => lhs; whnf)
        rw [wrap_nat i10 (by have := hn_i10; omega)]
        exact hnx12 _ _ _ _ (fun kk => by kernel_rfl) h
      · replace h := ifT h hb16
        conv => lhs; whnf
        try (rw [hb16]; conv => lhs; whnf)
        try (rw [hb16]; conv => lhs; whnf)
        cases hb17 : (v11 == 0)
        · replace h := ifF h (beqF hb17)
          conv => lhs; whnf
          try (rw [hb17]; conv => lhs; whnf)
          try (rw [hb17]; conv => lhs; whnf)
          try (rw [hb17]; conv => lhs; whnf)
          try (rw [hb16]; conv => lhs; whnf)
          try (rw [hb17]; conv => lhs; whnf)
          try (rw [hb16]; conv => lhs; whnf)
          cases hb18 : (decide (x13.Seq < v11))
          · replace h := ifF h (decF hb18)
            conv => lhs; whnf
            rw [wrap_nat i10 (by have := hn_i10; omega)]
            exact hnx12 _ _ _ _ (fun kk => by kernel_rfl) h
          · replace h := ifT h (decT hb18)
            conv => lhs; whnf
            rw [wrap_nat i10 (by have := hn_i10; omega)]
            exact hnx12 _ _ _ _ (fun kk => by kernel_rfl) h
        · replace h := ifT h (beqT hb17)
          conv => lhs; whnf
          try (rw [hb17]; conv => lhs; whnf)
          try (rw [hb17]; conv => lhs; whnf)
          try (rw [hb17]; conv => lhs; whnf)
          try (rw [hb16]; conv => lhs; whnf)
          try (rw [hb17]; conv => lhs; whnf)
          try (rw [hb16]; conv => lhs; whnf)
          rw [wrap_nat i10 (by have := hn_i10; omega)]
          exact hnx12 _ _ _ _ (fun kk => by kernel_rfl) h
  · clear h
    rintro next_nx12 v11 r h
    try dsimp only at h
    have hd_i10 : (decide ((a_0.length : Int) < (a_0.length : Int))) = false := decide_eq_false (by omega)
    conv => lhs; whnf
    rw [hd_i10]
    conv => lhs; whnf
    cases hb19 : (decide (v11 > 0))
    · replace h := ifF h (decF hb19)
      conv => lhs; whnf
      try (rw [hb19]; conv => lhs; whnf)
      try (rw [hb19]; conv => lhs; whnf)
      try (rw [hb19]; conv => lhs; whnf)
      try (rw [hb19]; conv => lhs; whnf)
      obtain rfl := Option.some.inj h
      show _ = _
      kernel_rfl
    · replace h := ifT h (decT hb19)
      conv => lhs; whnf
      try (rw [hb19]; conv => lhs; whnf)
      try (rw [hb19]; conv => lhs; whnf)
      obtain ⟨y20, h_y20, h⟩ := callK_inv h
      rw [cl_eq hcl (L_slices_ContainsFunc_impl_hidden_c1 a_2 a_1 v11 h_y20)]
      rotate_left
      · show _ = _
        kernel_rfl
      · show _ = _
        kernel_rfl
      conv => lhs; whnf
      try (rw [hb19]; conv => lhs; whnf)
      try (rw [hb19]; conv => lhs; whnf)
      obtain rfl := Option.some.inj h
      show _ = _
      kernel_rfl

noncomputable def p_impl_dropHidden_c1 (a_0 : Record) (a_1 : List Record) (a_2 : List Int) : Option Bool :=
  callK (p_impl_isRange a_0) fun y1 =>
  if y1 = true then
    some false
  else
    callK (p_impl_hidden a_1 a_0 a_2) fun y3 =>
    some y3

set_option maxHeartbeats 4000000 in
theorem L_impl_dropHidden_c1 (a_0 : Record) (a_1 : List Record) (a_2 : List Int) {r : Bool} (h : p_impl_dropHidden_c1 a_0 a_1 a_2 = some r) : callL E 165 [.agg [ST a_0.Key, IN a_0.Seq, IN a_0.Kind, ST a_0.Value, ST a_0.End], .bp 0 0, .bp 1 0] ([some (.box [.d (.arr (a_1.map rRecord))]), some (.box [.d (.arr (a_2.map rI))])] : Fo) = some (BO r, ([some (.box [.d (.arr (a_1.map rRecord))]), some (.box [.d (.arr (a_2.map rI))])] : Fo)) := by
  unfold p_impl_dropHidden_c1 at h
  refine callW (fu := Try.f165) rfl rfl rfl NN ?_
  intro lp cl hlp hcl
  conv => lhs; whnf
  obtain ⟨y1, h_y1, h⟩ := callK_inv h
  rw [cl_eq hcl (L_impl_isRange a_0 h_y1)]
  rotate_left
  · show _ = _
    kernel_rfl
  · show _ = _
    kernel_rfl
  conv => lhs; whnf
  cases hb2 : y1
  · replace h := ifF h (booF hb2)
    conv => lhs; whnf
    try (rw [hb2]; conv => lhs; whnf)
    try (rw [hb2]; conv => lhs; whnf)
    try (rw [hb2]; conv => lhs; whnf)
    obtain ⟨y3, h_y3, h⟩ := callK_inv h
    rw [cl_eq hcl (L_impl_hidden a_1 a_0 a_2 h_y3)]
    rotate_left
    · show _ = _
      kernel_rfl
    · show _ = _
      kernel_rfl
    conv => lhs; whnf
    try (rw [hb2]; conv => lhs; whnf)
    obtain rfl := Option.some.inj h
    show _ = _
    kernel_rfl
  · replace h := ifT h hb2
    conv => lhs; whnf
    try (rw [hb2]; conv => lhs; whnf)
    try (rw [hb2]; conv => lhs; whnf)
    try (rw [hb2]; conv => lhs; whnf)
    try (rw [hb2]; conv => lhs; whnf)
    obtain rfl := Option.some.inj h
    show _ = _
    kernel_rfl

noncomputable def p_slices_IndexFunc_impl_dropHidden_c1 (a_0 : List Record) (a_1 : List Record) (a_2 : List Int) : Option Int :=
  grd (a_0.length < 4611686018427387904) <|
  forK a_0 (fun (i6 : Nat) x8 (_ : Unit) (nx7 : Unit → Option _) =>
    callK (p_impl_dropHidden_c1 x8 a_1 a_2) fun y9 =>
    if y9 = true then
      some (i6 : Int)
    else
      nx7 ()) () (fun (_ : Unit) =>
    some (-1))

set_option maxHeartbeats 4000000 in
theorem L_slices_IndexFunc_impl_dropHidden_c1 (a_0 : List Record) (a_1 : List Record) (a_2 : List Int) {r : Int} (h : p_slices_IndexFunc_impl_dropHidden_c1 a_0 a_1 a_2 = some r) : callL E 101 [.sl 0, .clo 165 [.bp 1 0, .bp 2 0]] ([some (.arr 30 5 (a_0.map rRecord)), some (.box [.d (.arr (a_1.map rRecord))]), some (.box [.d (.arr (a_2.map rI))])] : Fo) = some (IN r, ([some (.arr 30 5 (a_0.map rRecord)), some (.box [.d (.arr (a_1.map rRecord))]), some (.box [.d (.arr (a_2.map rI))])] : Fo)) := by
  unfold p_slices_IndexFunc_impl_dropHidden_c1 at h
  refine callW (fu := Try.f101) rfl rfl rfl NN ?_
  intro lp cl hlp hcl
  conv => lhs; whnf
  try rw [len_of (l := a_0) (r := rRecord)]
  obtain ⟨hl_i6, h⟩ := grd_inv h
  refine loop_for hlp (l := a_0) hl_i6 (fun (i6 : Nat) (_ : Unit) => ([.sl 0, .clo 165 [.bp 1 0, .bp 2 0], .dead, .dead, .dead, .dead, .dead, IN (a_0.length : Int), IN (i6 : Int)] ++ List.replicate 10 .dead : List V)) (fun (i6 : Nat) (_ : Unit) => ([some (.arr 30 5 (a_0.map rRecord)), some (.box [.d (.arr (a_1.map rRecord))]), some (.box [.d (.arr (a_2.map rI))])] : Fo)) (fun (r : Int) => ((IN r : V), ([some (.arr 30 5 (a_0.map rRecord)), some (.box [.d (.arr (a_1.map rRecord))]), some (.box [.d (.arr (a_2.map rI))])] : Fo))) ?_ ?_ () _ (fun kk => by kernel_rfl) h
  · clear h
    rintro next_nx7 nx7 i6 hi_i6 hnx7 ⟨⟩ r h
    try dsimp only at h
    have hn_i6 : i6 < 4611686018427387904 := by omega
    have hx_x8 := get_map rRecord a_0 i6 hi_i6
    generalize a_0[i6] = x8 at h hx_x8
    have hd_i6 : (decide ((i6 : Int) < (a_0.length : Int))) = true := decide_eq_true (by omega)
    conv => lhs; whnf
    rw [hd_i6]
    conv => lhs; whnf
    try (rw [decide_eq_true hq_x8]; conv => lhs; whnf)
    rw [hx_x8]
    conv => lhs; whnf
    rw [hx_x8]
    conv => lhs; whnf
    obtain ⟨y9, h_y9, h⟩ := callK_inv h
    rw [cl_eq hcl (L_impl_dropHidden_c1 x8 a_1 a_2 h_y9)]
    rotate_left
    · show _ = _
      kernel_rfl
    · show _ = _
      kernel_rfl
    conv => lhs; whnf
    cases hb10 : y9
    · replace h := ifF h (booF hb10)
      conv => lhs; whnf
      rw [wrap_nat i6 (by have := hn_i6; omega)]
      exact hnx7 _ _ _ _ (fun kk => by kernel_rfl) h
    · replace h := ifT h hb10
      conv => lhs; whnf
      obtain rfl := Option.some.inj h
      show _ = _
      kernel_rfl
  · clear h
    rintro next_nx7 ⟨⟩ r h
    try dsimp only at h
    have hd_i6 : (decide ((a_0.length : Int) < (a_0.length : Int))) = false := decide_eq_false (by omega)
    conv => lhs; whnf
    rw [hd_i6]
    conv => lhs; whnf
    obtain rfl := Option.some.inj h
    show _ = _
    kernel_rfl

noncomputable def p_slices_DeleteFunc_impl_dropHidden_c1 (a_0 : List Record) (a_1 : List Record) (a_2 : List Int) : Option (List Record) :=
  callK (p_slices_IndexFunc_impl_dropHidden_c1 a_0 a_1 a_2) fun y1 =>
  if y1 = (-1) then
    some a_0
  else
    iterK (fun ((v3, v4, v5) : (Int × Int × (List Record))) (nx6 : (Int × Int × (List Record)) → Option _) =>
      if v4 < (v5.length : Int) then
        getK v5 v4 fun x8 =>
        callK (p_impl_dropHidden_c1 x8 a_1 a_2) fun y9 =>
        if y9 = true then
          nx6 (v3, (IntKind.i64.wrap (v4 + 1)), v5)
        else
          getK v5 v3 fun x11 =>
          nx6 ((IntKind.i64.wrap (v3 + 1)), (IntKind.i64.wrap (v4 + 1)), (v5.set (Int.toNat v3) x8))
      else
        grd (0 ≤ v3 ∧ v3 < (v5.length : Int)) <|
        grd (0 ≤ v3 ∧ v3 ≤ ((v5.take (Int.toNat v3) ++ List.replicate (v5.length - (Int.toNat v3)) (⟨(⟨#[]⟩ : ByteArray), 0, 0, (⟨#[]⟩ : ByteArray), (⟨#[]⟩ : ByteArray)⟩ : Record)).length : Int)) <|
        some ((v5.take (Int.toNat v3) ++ List.replicate (v5.length - (Int.toNat v3)) (⟨(⟨#[]⟩ : ByteArray), 0, 0, (⟨#[]⟩ : ByteArray), (⟨#[]⟩ : ByteArray)⟩ : Record)).take (Int.toNat v3))) NN (y1, (IntKind.i64.wrap (y1 + 1)), a_0)

set_option maxHeartbeats 4000000 in
theorem L_slices_DeleteFunc_impl_dropHidden_c1 (a_0 : List Record) (a_1 : List Record) (a_2 : List Int) {r : (List Record)} (h : p_slices_DeleteFunc_impl_dropHidden_c1 a_0 a_1 a_2 = some r) : callL E 106 [.sl 0, .clo 165 [.bp 1 0, .bp 2 0]] ([some (.arr 30 5 (a_0.map rRecord)), some (.box [.d (.arr (a_1.map rRecord))]), some (.box [.d (.arr (a_2.map rI))])] : Fo) = some (.sl 3, ([none, some (.box [.d (.arr (a_1.map rRecord))]), some (.box [.d (.arr (a_2.map rI))]), some (.arr 30 5 (r.map rRecord))] : Fo)) := by
  unfold p_slices_DeleteFunc_impl_dropHidden_c1 at h
  refine callW (fu := Try.f106) rfl rfl rfl NN ?_
  intro lp cl hlp hcl
  conv => lhs; whnf
  obtain ⟨y1, h_y1, h⟩ := callK_inv h
  rw [cl_eq hcl (L_slices_IndexFunc_impl_dropHidden_c1 a_0 a_1 a_2 h_y1)]
  rotate_left
  · show _ = _
    kernel_rfl
  · show _ = _
    kernel_rfl
  conv => lhs; whnf
  cases hb2 : (y1 == (-1))
  · replace h := ifF h (beqF hb2)
    conv => lhs; whnf
    refine loop_iter hlp (fun ((v3, v4, v5) : (Int × Int × (List Record))) => ([.sl 0, .clo 165 [.bp 1 0, .bp 2 0], .dead, .dead, .dead, IN v3, IN v4] ++ List.replicate 35 .dead : List V)) (fun ((v3, v4, v5) : (Int × Int × (List Record))) => ([some (.arr 30 5 (v5.map rRecord)), some (.box [.d (.arr (a_1.map rRecord))]), some (.box [.d (.arr (a_2.map rI))])] : Fo)) (fun (r : (List Record)) => ((.sl 3 : V), ([none, some (.box [.d (.arr (a_1.map rRecord))]), some (.box [.d (.arr (a_2.map rI))]), some (.arr 30 5 (r.map rRecord))] : Fo))) ?_ (y1, (IntKind.i64.wrap (y1 + 1)), a_0) _ (fun kk => by kernel_rfl) h
    clear h
    rintro next_nx6 nx6 hnx6 ⟨v3, v4, v5⟩ r h
    try dsimp only at h
    conv => lhs; whnf
    try rw [len_of (l := v5) (r := rRecord)]
    cases hb7 : (decide (v4 < (v5.length : Int)))
    · replace h := ifF h (decF hb7)
      conv => lhs; whnf
      obtain ⟨hg12, h⟩ := grd_inv h
      try rw [List.length_map]
      try (rw [decide_eq_true hg12.1]; conv => lhs; whnf)
      try (rw [decide_eq_true hg12.2])
      conv => lhs; whnf
      first | (rw [wipe_of (r := rRecord) (l := v5) (x := (⟨(⟨#[]⟩ : ByteArray), 0, 0, (⟨#[]⟩ : ByteArray), (⟨#[]⟩ : ByteArray)⟩ : Record)) ?hh]; case hh => exact rfl) | skip
      obtain ⟨hg13, h⟩ := grd_inv h
      try rw [List.length_map]
      try (rw [decide_eq_true hg13.1]; conv => lhs; whnf)
      try (rw [decide_eq_true hg13.2])
      conv => lhs; whnf
      try rw [take_of (r := rRecord) (l := (v5.take (Int.toNat v3) ++ List.replicate (v5.length - (Int.toNat v3)) (⟨(⟨#[]⟩ : ByteArray), 0, 0, (⟨#[]⟩ : ByteArray), (⟨#[]⟩ : ByteArray)⟩ : Record)))]
      obtain rfl := Option.some.inj h
      show _ = _
      kernel_rfl
    · replace h := ifT h (decT hb7)
      conv => lhs; whnf
      obtain ⟨x8, hq_x8, hx_x8', h⟩ := getK_inv h
      have hx_x8 := get_of (r := rRecord) hx_x8'
      try (rw [decide_eq_true hq_x8]; conv => lhs; whnf)
      rw [hx_x8]
      conv => lhs; whnf
      rw [hx_x8]
      conv => lhs; whnf
      obtain ⟨y9, h_y9, h⟩ := callK_inv h
      rw [cl_eq hcl (L_impl_dropHidden_c1 x8 a_1 a_2 h_y9)]
      rotate_left
      · show _ = _
        kernel_rfl
      · show _ = _
        kernel_rfl
      conv => lhs; whnf
      cases hb10 : y9
      · replace h := ifF h (booF hb10)
        conv => lhs; whnf
        obtain ⟨x11, hq_x11, hx_x11', h⟩ := getK_inv h
        have hx_x11 := get_of (r := rRecord) hx_x11'
        try (rw [decide_eq_true hq_x11]; conv => lhs; whnf)
        rw [hx_x11]
        conv => lhs; whnf
        rw [hx_x11]
        conv => lhs; whnf
        first | (rw [map_set_of (r := rRecord) (l := v5) (x := x8) ?hh]; case hh => exact rfl) | skip
        exact hnx6 _ _ _ _ (fun kk => by kernel_rfl) h
      · replace h := ifT h hb10
        conv => lhs; whnf
        exact hnx6 _ _ _ _ (fun kk => by kernel_rfl) h
  · replace h := ifT h (beqT hb2)
    conv => lhs; whnf
    obtain rfl := Option.some.inj h
    show _ = _
    kernel_rfl

noncomputable def p_impl_dropHidden_c2 (a_0 : Record) : Option Bool :=
  some (a_0.Kind != 1)

set_option maxHeartbeats 4000000 in
theorem L_impl_dropHidden_c2 (a_0 : Record) {r : Bool} (h : p_impl_dropHidden_c2 a_0 = some r) : callL E 168 [.agg [ST a_0.Key, IN a_0.Seq, IN a_0.Kind, ST a_0.Value, ST a_0.End]] ([] : Fo) = some (BO r, ([] : Fo)) := by
  unfold p_impl_dropHidden_c2 at h
  refine callW (fu := Try.f168) rfl rfl rfl NN ?_
  intro lp cl hlp hcl
  conv => lhs; whnf
  obtain rfl := Option.some.inj h
  show _ = _
  kernel_rfl

noncomputable def p_slices_IndexFunc_impl_dropHidden_c2 (a_0 : List Record) : Option Int :=
  grd (a_0.length < 4611686018427387904) <|
  forK a_0 (fun (i6 : Nat) x8 (_ : Unit) (nx7 : Unit → Option _) =>
    callK (p_impl_dropHidden_c2 x8) fun y9 =>
    if y9 = true then
      some (i6 : Int)
    else
      nx7 ()) () (fun (_ : Unit) =>
    some (-1))

set_option maxHeartbeats 4000000 in
theorem L_slices_IndexFunc_impl_dropHidden_c2 (a_0 : List Record) {r : Int} (h : p_slices_IndexFunc_impl_dropHidden_c2 a_0 = some r) : callL E 101 [.sl 0, .clo 168 []] ([some (.arr 30 5 (a_0.map rRecord))] : Fo) = some (IN r, ([some (.arr 30 5 (a_0.map rRecord))] : Fo)) := by
  unfold p_slices_IndexFunc_impl_dropHidden_c2 at h
  refine callW (fu := Try.f101) rfl rfl rfl NN ?_
  intro lp cl hlp hcl
  conv => lhs; whnf
  try rw [len_of (l := a_0) (r := rRecord)]
  obtain ⟨hl_i6, h⟩ := grd_inv h
  refine loop_for hlp (l := a_0) hl_i6 (fun (i6 : Nat) (_ : Unit) => ([.sl 0, .clo 168 [], .dead, .dead, .dead, .dead, .dead, IN (a_0.length : Int), IN (i6 : Int)] ++ List.replicate 10 .dead : List V)) (fun (i6 : Nat) (_ : Unit) => ([some (.arr 30 5 (a_0.map rRecord))] : Fo)) (fun (r : Int) => ((IN r : V), ([some (.arr 30 5 (a_0.map rRecord))] : Fo))) ?_ ?_ () _ (fun kk => by kernel_rfl) h
  · clear h
    rintro next_nx7 nx7 i6 hi_i6 hnx7 ⟨⟩ r h
    try dsimp only at h
    have hn_i6 : i6 < 4611686018427387904 := by omega
    have hx_x8 := get_map rRecord a_0 i6 hi_i6
    generalize a_0[i6] = x8 at h hx_x8
    have hd_i6 : (decide ((i6 : Int) < (a_0.length : Int))) = true := decide_eq_true (by omega)
    conv => lhs; whnf
    rw [hd_i6]
    conv => lhs; whnf
    try (rw [decide_eq_true hq_x8]; conv => lhs; whnf)
    rw [hx_x8]
    conv => lhs; whnf
    rw [hx_x8]
    conv => lhs; whnf
    obtain ⟨y9, h_y9, h⟩ := callK_inv h
    rw [cl_eq hcl (L_impl_dropHidden_c2 x8 h_y9)]
    rotate_left
    · show _ = _
      kernel_rfl
    · show _ = _
      kernel_rfl
    conv => lhs; whnf
    cases hb10 : y9
    · replace h := ifF h (booF hb10)
      conv => lhs; whnf
      rw [wrap_nat i6 (by have := hn_i6; omega)]
      exact hnx7 _ _ _ _ (fun kk => by kernel_rfl) h
    · replace h := ifT h hb10
      conv => lhs; whnf
      obtain rfl := Option.some.inj h
      show _ = _
      kernel_rfl
  · clear h
    rintro next_nx7 ⟨⟩ r h
    try dsimp only at h
    have hd_i6 : (decide ((a_0.length : Int) < (a_0.length : Int))) = false := decide_eq_false (by omega)
    conv => lhs; whnf
    rw [hd_i6]
    conv => lhs; whnf
    obtain rfl := Option.some.inj h
    show _ = _
    kernel_rfl

noncomputable def p_slices_DeleteFunc_impl_dropHidden_c2 (a_0 : List Record) : Option (List Record) :=
  callK (p_slices_IndexFunc_impl_dropHidden_c2 a_0) fun y1 =>
  if y1 = (-1) then
    some a_0
  else
    iterK (fun ((v3, v4, v5) : (Int × Int × (List Record))) (nx6 : (Int × Int × (List Record)) → Option _) =>
      if v4 < (v5.length : Int) then
        getK v5 v4 fun x8 =>
        callK (p_impl_dropHidden_c2 x8) fun y9 =>
        if y9 = true then
          nx6 (v3, (IntKind.i64.wrap (v4 + 1)), v5)
        else
          getK v5 v3 fun x11 =>
          nx6 ((IntKind.i64.wrap (v3 + 1)), (IntKind.i64.wrap (v4 + 1)), (v5.set (Int.toNat v3) x8))
      else
        grd (0 ≤ v3 ∧ v3 < (v5.length : Int)) <|
        grd (0 ≤ v3 ∧ v3 ≤ ((v5.take (Int.toNat v3) ++ List.replicate (v5.length - (Int.toNat v3)) (⟨(⟨#[]⟩ : ByteArray), 0, 0, (⟨#[]⟩ : ByteArray), (⟨#[]⟩ : ByteArray)⟩ : Record)).length : Int)) <|
        some ((v5.take (Int.toNat v3) ++ List.replicate (v5.length - (Int.toNat v3)) (⟨(⟨#[]⟩ : ByteArray), 0, 0, (⟨#[]⟩ : ByteArray), (⟨#[]⟩ : ByteArray)⟩ : Record)).take (Int.toNat v3))) NN (y1, (IntKind.i64.wrap (y1 + 1)), a_0)

set_option maxHeartbeats 4000000 in
theorem L_slices_DeleteFunc_impl_dropHidden_c2 (a_0 : List Record) {r : (List Record)} (h : p_slices_DeleteFunc_impl_dropHidden_c2 a_0 = some r) : callL E 106 [.sl 0, .clo 168 []] ([some (.arr 30 5 (a_0.map rRecord))] : Fo) = some (.sl 1, ([none, some (.arr 30 5 (r.map rRecord))] : Fo)) := by
  unfold p_slices_DeleteFunc_impl_dropHidden_c2 at h
  refine callW (fu := Try.f106) rfl rfl rfl NN ?_
  intro lp cl hlp hcl
  conv => lhs; whnf
  obtain ⟨y1, h_y1, h⟩ := callK_inv h
  rw [cl_eq hcl (L_slices_IndexFunc_impl_dropHidden_c2 a_0 h_y1)]
  rotate_left
  · show _ = _
    kernel_rfl
  · show _ = _
    kernel_rfl
  conv => lhs; whnf
  cases hb2 : (y1 == (-1))
  · replace h := ifF h (beqF hb2)
    conv => lhs; whnf
    refine loop_iter hlp (fun ((v3, v4, v5) : (Int × Int × (List Record))) => ([.sl 0, .clo 168 [], .dead, .dead, .dead, IN v3, IN v4] ++ List.replicate 35 .dead : List V)) (fun ((v3, v4, v5) : (Int × Int × (List Record))) => ([some (.arr 30 5 (v5.map rRecord))] : Fo)) (fun (r : (List Record)) => ((.sl 1 : V), ([none, some (.arr 30 5 (r.map rRecord))] : Fo))) ?_ (y1, (IntKind.i64.wrap (y1 + 1)), a_0) _ (fun kk => by kernel_rfl) h
    clear h
    rintro next_nx6 nx6 hnx6 ⟨v3, v4, v5⟩ r h
    try dsimp only at h
    conv => lhs; whnf
    try rw [len_of (l := v5) (r := rRecord)]
    cases hb7 : (decide (v4 < (v5.length : Int)))
    · replace h := ifF h (decF hb7)
      conv => lhs; whnf
      obtain ⟨hg12, h⟩ := grd_inv h
      try rw [List.length_map]
      try (rw [decide_eq_true hg12.1]; conv => lhs; whnf)
      try (rw [decide_eq_true hg12.2])
      conv => lhs; whnf
      first | (rw [wipe_of (r := rRecord) (l := v5) (x := (⟨(⟨#[]⟩ : ByteArray), 0, 0, (⟨#[]⟩ : ByteArray), (⟨#[]⟩ : ByteArray)⟩ : Record)) ?hh]; case hh => exact rfl) | skip
      obtain ⟨hg13, h⟩ := grd_inv h
      try rw [List.length_map]
      try (rw [decide_eq_true hg13.1]; conv => lhs; whnf)
      try (rw [decide_eq_true hg13.2])
      conv => lhs; whnf
      try rw [take_of (r := rRecord) (l := (v5.take (Int.toNat v3) ++ List.replicate (v5.length - (Int.toNat v3)) (⟨(⟨#[]⟩ : ByteArray), 0, 0, (⟨#[]⟩ : ByteArray), (⟨#[]⟩ : ByteArray)⟩ : Record)))]
      obtain rfl := Option.some.inj h
      show _ = _
      kernel_rfl
    · replace h := ifT h (decT hb7)
      conv => lhs; whnf
      obtain ⟨x8, hq_x8, hx_x8', h⟩ := getK_inv h
      have hx_x8 := get_of (r := rRecord) hx_x8'
      try (rw [decide_eq_true hq_x8]; conv => lhs; whnf)
      rw [hx_x8]
      conv => lhs; whnf
      rw [hx_x8]
      conv => lhs; whnf
      obtain ⟨y9, h_y9, h⟩ := callK_inv h
      rw [cl_eq hcl (L_impl_dropHidden_c2 x8 h_y9)]
      rotate_left
      · show _ = _
        kernel_rfl
      · show _ = _
        kernel_rfl
      conv => lhs; whnf
      cases hb10 : y9
      · replace h := ifF h (booF hb10)
        conv => lhs; whnf
        obtain ⟨x11, hq_x11, hx_x11', h⟩ := getK_inv h
        have hx_x11 := get_of (r := rRecord) hx_x11'
        try (rw [decide_eq_true hq_x11]; conv => lhs; whnf)
        rw [hx_x11]
        conv => lhs; whnf
        rw [hx_x11]
        conv => lhs; whnf
        first | (rw [map_set_of (r := rRecord) (l := v5) (x := x8) ?hh]; case hh => exact rfl) | skip
        exact hnx6 _ _ _ _ (fun kk => by kernel_rfl) h
      · replace h := ifT h hb10
        conv => lhs; whnf
        exact hnx6 _ _ _ _ (fun kk => by kernel_rfl) h
  · replace h := ifT h (beqT hb2)
    conv => lhs; whnf
    obtain rfl := Option.some.inj h
    show _ = _
    kernel_rfl

noncomputable def p_impl_dropHidden_c3_c1 (a_0 : Record) (a_1 : Record) : Option Bool :=
  if a_0.Seq < a_1.Seq then
    callK (p_impl_Record_affects a_1 a_0.Key) fun y2 =>
    some y2
  else
    some false

set_option maxHeartbeats 4000000 in
theorem L_impl_dropHidden_c3_c1 (a_0 : Record) (a_1 : Record) {r : Bool} (h : p_impl_dropHidden_c3_c1 a_0 a_1 = some r) : callL E 171 [.agg [ST a_0.Key, IN a_0.Seq, IN a_0.Kind, ST a_0.Value, ST a_0.End], .bp 0 0] ([some (.box [ST a_1.Key, IN a_1.Seq, IN a_1.Kind, ST a_1.Value, ST a_1.End])] : Fo) = some (BO r, ([some (.box [ST a_1.Key, IN a_1.Seq, IN a_1.Kind, ST a_1.Value, ST a_1.End])] : Fo)) := by
  unfold p_impl_dropHidden_c3_c1 at h
  refine callW (fu := Try.f171) rfl rfl rfl NN ?_
  intro lp cl hlp hcl
  conv => lhs; whnf
  cases hb1 : (decide (a_0.Seq < a_1.Seq))
  · replace h := ifF h (decF hb1)
    conv => lhs; whnf
    try (rw [hb1]; conv => lhs; whnf)
    try (rw [hb1]; conv => lhs; whnf)
    try (rw [hb1]; conv => lhs; whnf)
    try (rw [hb1]; conv => lhs; whnf)
    obtain rfl := Option.some.inj h
    show _ = _
    kernel_rfl
  · replace h := ifT h (decT hb1)
    conv => lhs; whnf
    try (rw [hb1]; conv => lhs; whnf)
    try (rw [hb1]; conv => lhs; whnf)
    try (rw [hb1]; conv => lhs; whnf)
    obtain ⟨y2, h_y2, h⟩ := callK_inv h
    rw [cl_eq hcl (L_impl_Record_affects a_1 a_0.Key h_y2)]
    rotate_left
    · show _ = _
      kernel_rfl
    · show _ = _
      kernel_rfl
    conv => lhs; whnf
    try (rw [hb1]; conv => lhs; whnf)
    obtain rfl := Option.some.inj h
    show _ = _
    kernel_rfl

noncomputable def p_slices_IndexFunc_impl_dropHidden_c3_c1 (a_0 : List Record) (a_1 : Record) : Option Int :=
  grd (a_0.length < 4611686018427387904) <|
  forK a_0 (fun (i6 : Nat) x8 (_ : Unit) (nx7 : Unit → Option _) =>
    callK (p_impl_dropHidden_c3_c1 x8 a_1) fun y9 =>
    if y9 = true then
      some (i6 : Int)
    else
      nx7 ()) () (fun (_ : Unit) =>
    some (-1))

set_option maxHeartbeats 4000000 in
theorem L_slices_IndexFunc_impl_dropHidden_c3_c1 (a_0 : List Record) (a_1 : Record) {r : Int} (h : p_slices_IndexFunc_impl_dropHidden_c3_c1 a_0 a_1 = some r) : callL E 101 [.sl 0, .clo 171 [.bp 1 0]] ([some (.arr 30 5 (a_0.map rRecord)), some (.box [ST a_1.Key, IN a_1.Seq, IN a_1.Kind, ST a_1.Value, ST a_1.End])] : Fo) = some (IN r, ([some (.arr 30 5 (a_0.map rRecord)), some (.box [ST a_1.Key, IN a_1.Seq, IN a_1.Kind, ST a_1.Value, ST a_1.End])] : Fo)) := by
  unfold p_slices_IndexFunc_impl_dropHidden_c3_c1 at h
  refine callW (fu := Try.f101) rfl rfl rfl NN ?_
  intro lp cl hlp hcl
  conv => lhs; whnf
  try rw [len_of (l := a_0) (r := rRecord)]
  obtain ⟨hl_i6, h⟩ := grd_inv h
  refine loop_for hlp (l := a_0) hl_i6 (fun (i6 : Nat) (_ : Unit) => ([.sl 0, .clo 171 [.bp 1 0], .dead, .dead, .dead, .dead, .dead, IN (a_0.length : Int), IN (i6 : Int)] ++ List.replicate 10 .dead : List V)) (fun (i6 : Nat) (_ : Unit) => ([some (.arr 30 5 (a_0.map rRecord)), some (.box [ST a_1.Key, IN a_1.Seq, IN a_1.Kind, ST a_1.Value, ST a_1.End])] : Fo)) (fun (r : Int) => ((IN r : V), ([some (.arr 30 5 (a_0.map rRecord)), some (.box [ST a_1.Key, IN a_1.Seq, IN a_1.Kind, ST a_1.Value, ST a_1.End])] : Fo))) ?_ ?_ () _ (fun kk => by kernel_rfl) h
  · clear h
    rintro next_nx7 nx7 i6 hi_i6 hnx7 ⟨⟩ r h
    try dsimp only at h
    have hn_i6 : i6 < 4611686018427387904 := by omega
    have hx_x8 := get_map rRecord a_0 i6 hi_i6
    generalize a_0[i6] = x8 at h hx_x8
    have hd_i6 : (decide ((i6 : Int) < (a_0.length : Int))) = true := decide_eq_true (by omega)
    conv => lhs; whnf
    rw [hd_i6]
    conv => lhs; whnf
    try (rw [decide_eq_true hq_x8]; conv => lhs; whnf)
    rw [hx_x8]
    conv => lhs; whnf
    rw [hx_x8]
    conv => lhs; whnf
    obtain ⟨y9, h_y9, h⟩ := callK_inv h
    rw [cl_eq hcl (L_impl_dropHidden_c3_c1 x8 a_1 h_y9)]
    rotate_left
    · show _ = _
      kernel_rfl
    · show _ = _
      kernel_rfl
    conv => lhs; whnf
    cases hb10 : y9
    · replace h := ifF h (booF hb10)
      conv => lhs; whnf
      rw [wrap_nat i6 (by have := hn_i6; omega)]
      exact hnx7 _ _ _ _ (fun kk => by kernel_rfl) h
    · replace h := ifT h hb10
      conv => lhs; whnf
      obtain rfl := Option.some.inj h
      show _ = _
      kernel_rfl
  · clear h
    rintro next_nx7 ⟨⟩ r h
    try dsimp only at h
    have hd_i6 : (decide ((a_0.length : Int) < (a_0.length : Int))) = false := decide_eq_false (by omega)
    conv => lhs; whnf
    rw [hd_i6]
    conv => lhs; whnf
    obtain rfl := Option.some.inj h
    show _ = _
    kernel_rfl

noncomputable def p_slices_ContainsFunc_impl_dropHidden_c3_c1 (a_0 : List Record) (a_1 : Record) : Option Bool :=
  callK (p_slices_IndexFunc_impl_dropHidden_c3_c1 a_0 a_1) fun y1 =>
  some (decide (y1 ≥ 0))

set_option maxHeartbeats 4000000 in
theorem L_slices_ContainsFunc_impl_dropHidden_c3_c1 (a_0 : List Record) (a_1 : Record) {r : Bool} (h : p_slices_ContainsFunc_impl_dropHidden_c3_c1 a_0 a_1 = some r) : callL E 170 [.sl 0, .clo 171 [.bp 1 0]] ([some (.arr 30 5 (a_0.map rRecord)), some (.box [ST a_1.Key, IN a_1.Seq, IN a_1.Kind, ST a_1.Value, ST a_1.End])] : Fo) = some (BO r, ([some (.arr 30 5 (a_0.map rRecord)), some (.box [ST a_1.Key, IN a_1.Seq, IN a_1.Kind, ST a_1.Value, ST a_1.End])] : Fo)) := by
  unfold p_slices_ContainsFunc_impl_dropHidden_c3_c1 at h
  refine callW (fu := Try.f170) rfl rfl rfl NN ?_
  intro lp cl hlp hcl
  conv => lhs; whnf
  obtain ⟨y1, h_y1, h⟩ := callK_inv h
  rw [cl_eq hcl (L_slices_IndexFunc_impl_dropHidden_c3_c1 a_0 a_1 h_y1)]
  rotate_left
  · show _ = _
    kernel_rfl
  · show _ = _
    kernel_rfl
  conv => lhs; whnf
  obtain rfl := Option.some.inj h
  show _ = _
  kernel_rfl

noncomputable def p_impl_dropHidden_c3 (a_0 : Record) (a_1 : List Record) : Option Bool :=
  if ¬ a_0.Kind = 1 then
    callK (p_slices_ContainsFunc_impl_dropHidden_c3_c1 a_1 a_0) fun y2 =>
    some (!y2)
  else
    some false

set_option maxHeartbeats 4000000 in
theorem L_impl_dropHidden_c3 (a_0 : Record) (a_1 : List Record) {r : Bool} (h : p_impl_dropHidden_c3 a_0 a_1 = some r) : callL E 169 [.agg [ST a_0.Key, IN a_0.Seq, IN a_0.Kind, ST a_0.Value, ST a_0.End], .bp 0 0] ([some (.box [.sl 1]), some (.arr 30 5 (a_1.map rRecord))] : Fo) = some (BO r, ([some (.box [.sl 1]), some (.arr 30 5 (a_1.map rRecord))] : Fo)) := by
  unfold p_impl_dropHidden_c3 at h
  refine callW (fu := Try.f169) rfl rfl rfl NN ?_
  intro lp cl hlp hcl
  conv => lhs; whnf
  cases hb1 : (a_0.Kind != 1)
  · replace h := ifF h ((fun h => not_not_intro (bneF h)) hb1)
    conv => lhs; whnf
    try (rw [hb1]; conv => lhs; whnf)
    try (rw [hb1]; conv => lhs; whnf)
    try (rw [hb1]; conv => lhs; whnf)
    try (rw [hb1]; conv => lhs; whnf)
    obtain rfl := Option.some.inj h
    show _ = _
    kernel_rfl
  · replace h := ifT h (bneT hb1)
    conv => lhs; whnf
    try (rw [hb1]; conv => lhs; whnf)
    try (rw [hb1]; conv => lhs; whnf)
    obtain ⟨y2, h_y2, h⟩ := callK_inv h
    rw [cl_eq hcl (L_slices_ContainsFunc_impl_dropHidden_c3_c1 a_1 a_0 h_y2)]
    rotate_left
    · show _ = _
      kernel_rfl
    · show _ = _
      kernel_rfl
    conv => lhs; whnf
    try (rw [hb1]; conv => lhs; whnf)
    try (rw [hb1]; conv => lhs; whnf)
    obtain rfl := Option.some.inj h
    show _ = _
    kernel_rfl

noncomputable def p_slices_IndexFunc_impl_dropHidden_c3 (a_0 : List Record) (a_1 : List Record) : Option Int :=
  grd (a_0.length < 4611686018427387904) <|
  forK a_0 (fun (i6 : Nat) x8 (_ : Unit) (nx7 : Unit → Option _) =>
    callK (p_impl_dropHidden_c3 x8 a_1) fun y9 =>
    if y9 = true then
      some (i6 : Int)
    else
      nx7 ()) () (fun (_ : Unit) =>
    some (-1))

set_option maxHeartbeats 4000000 in
theorem L_slices_IndexFunc_impl_dropHidden_c3 (a_0 : List Record) (a_1 : List Record) {r : Int} (h : p_slices_IndexFunc_impl_dropHidden_c3 a_0 a_1 = some r) : callL E 101 [.sl 0, .clo 169 [.bp 1 0]] ([some (.arr 30 5 (a_0.map rRecord)), some (.box [.sl 2]), some (.arr 30 5 (a_1.map rRecord))] : Fo) = some (IN r, ([some (.arr 30 5 (a_0.map rRecord)), some (.box [.sl 2]), some (.arr 30 5 (a_1.map rRecord))] : Fo)) := by
  unfold p_slices_IndexFunc_impl_dropHidden_c3 at h
  refine callW (fu := Try.f101) rfl rfl rfl NN ?_
  intro lp cl hlp hcl
  conv => lhs; whnf
  try rw [len_of (l := a_0) (r := rRecord)]
  obtain ⟨hl_i6, h⟩ := grd_inv h
  refine loop_for hlp (l := a_0) hl_i6 (fun (i6 : Nat) (_ : Unit) => ([.sl 0, .clo 169 [.bp 1 0], .dead, .dead, .dead, .dead, .dead, IN (a_0.length : Int), IN (i6 : Int)] ++ List.replicate 10 .dead : List V)) (fun (i6 : Nat) (_ : Unit) => ([some (.arr 30 5 (a_0.map rRecord)), some (.box [.sl 2]), some (.arr 30 5 (a_1.map rRecord))] : Fo)) (fun (r : Int) => ((IN r : V), ([some (.arr 30 5 (a_0.map rRecord)), some (.box [.sl 2]), some (.arr 30 5 (a_1.map rRecord))] : Fo))) ?_ ?_ () _ (fun kk => by kernel_rfl) h
  · clear h
    rintro next_nx7 nx7 i6 hi_i6 hnx7 ⟨⟩ r h
    try dsimp only at h
    have hn_i6 : i6 < 4611686018427387904 := by omega
    have hx_x8 := get_map rRecord a_0 i6 hi_i6
    generalize a_0[i6] = x8 at h hx_x8
    have hd_i6 : (decide ((i6 : Int) < (a_0.length : Int))) = true := decide_eq_true (by omega)
    conv => lhs; whnf
    rw [hd_i6]
    conv => lhs; whnf
    try (rw [decide_eq_true hq_x8]; conv => lhs; whnf)
    rw [hx_x8]
    conv => lhs; whnf
    rw [hx_x8]
    conv => lhs; whnf
    obtain ⟨y9, h_y9, h⟩ := callK_inv h
    rw [cl_eq hcl (L_impl_dropHidden_c3 x8 a_1 h_y9)]
    rotate_left
    · show _ = _
      kernel_rfl
    · show _ = _
      kernel_rfl
    conv => lhs; whnf
    cases hb10 : y9
    · replace h := ifF h (booF hb10)
      conv => lhs; whnf
      rw [wrap_nat i6 (by have := hn_i6; omega)]
      exact hnx7 _ _ _ _ (fun kk => by kernel_rfl) h
    · replace h := ifT h hb10
      conv => lhs; whnf
      obtain rfl := Option.some.inj h
      show _ = _
      kernel_rfl
  · clear h
    rintro next_nx7 ⟨⟩ r h
    try dsimp only at h
    have hd_i6 : (decide ((a_0.length : Int) < (a_0.length : Int))) = false := decide_eq_false (by omega)
    conv => lhs; whnf
    rw [hd_i6]
    conv => lhs; whnf
    obtain rfl := Option.some.inj h
    show _ = _
    kernel_rfl

noncomputable def p_slices_DeleteFunc_impl_dropHidden_c3 (a_0 : List Record) (a_1 : List Record) : Option (List Record) :=
  callK (p_slices_IndexFunc_impl_dropHidden_c3 a_0 a_1) fun y1 =>
  if y1 = (-1) then
    some a_0
  else
    iterK (fun ((v3, v4, v5) : (Int × Int × (List Record))) (nx6 : (Int × Int × (List Record)) → Option _) =>
      if v4 < (v5.length : Int) then
        getK v5 v4 fun x8 =>
        callK (p_impl_dropHidden_c3 x8 a_1) fun y9 =>
        if y9 = true then
          nx6 (v3, (IntKind.i64.wrap (v4 + 1)), v5)
        else
          getK v5 v3 fun x11 =>
          nx6 ((IntKind.i64.wrap (v3 + 1)), (IntKind.i64.wrap (v4 + 1)), (v5.set (Int.toNat v3) x8))
      else
        grd (0 ≤ v3 ∧ v3 < (v5.length : Int)) <|
        grd (0 ≤ v3 ∧ v3 ≤ ((v5.take (Int.toNat v3) ++ List.replicate (v5.length - (Int.toNat v3)) (⟨(⟨#[]⟩ : ByteArray), 0, 0, (⟨#[]⟩ : ByteArray), (⟨#[]⟩ : ByteArray)⟩ : Record)).length : Int)) <|
        some ((v5.take (Int.toNat v3) ++ List.replicate (v5.length - (Int.toNat v3)) (⟨(⟨#[]⟩ : ByteArray), 0, 0, (⟨#[]⟩ : ByteArray), (⟨#[]⟩ : ByteArray)⟩ : Record)).take (Int.toNat v3))) NN (y1, (IntKind.i64.wrap (y1 + 1)), a_0)

set_option maxHeartbeats 4000000 in
theorem L_slices_DeleteFunc_impl_dropHidden_c3 (a_0 : List Record) (a_1 : List Record) {r : (List Record)} (h : p_slices_DeleteFunc_impl_dropHidden_c3 a_0 a_1 = some r) : callL E 106 [.sl 0, .clo 169 [.bp 1 0]] ([some (.arr 30 5 (a_0.map rRecord)), some (.box [.sl 2]), some (.arr 30 5 (a_1.map rRecord))] : Fo) = some (.sl 3, ([none, some (.box [.sl 2]), some (.arr 30 5 (a_1.map rRecord)), some (.arr 30 5 (r.map rRecord))] : Fo)) := by
  unfold p_slices_DeleteFunc_impl_dropHidden_c3 at h
  refine callW (fu := Try.f106) rfl rfl rfl NN ?_
  intro lp cl hlp hcl
  conv => lhs; whnf
  obtain ⟨y1, h_y1, h⟩ := callK_inv h
  rw [cl_eq hcl (L_slices_IndexFunc_impl_dropHidden_c3 a_0 a_1 h_y1)]
  rotate_left
  · show _ = _
    kernel_rfl
  · show _ = _
    kernel_rfl
  conv => lhs; whnf
  cases hb2 : (y1 == (-1))
  · replace h := ifF h (beqF hb2)
    conv => lhs; whnf
    refine loop_iter hlp (fun ((v3, v4, v5) : (Int × Int × (List Record))) => ([.sl 0, .clo 169 [.bp 1 0], .dead, .dead, .dead, IN v3, IN v4] ++ List.replicate 35 .dead : List V)) (fun ((v3, v4, v5) : (Int × Int × (List Record))) => ([some (.arr 30 5 (v5.map rRecord)), some (.box [.sl 2]), some (.arr 30 5 (a_1.map rRecord))] : Fo)) (fun (r : (List Record)) => ((.sl 3 : V), ([none, some (.box [.sl 2]), some (.arr 30 5 (a_1.map rRecord)), some (.arr 30 5 (r.map rRecord))] : Fo))) ?_ (y1, (IntKind.i64.wrap (y1 + 1)), a_0) _ (fun kk => by kernel_rfl) h
    clear h
    rintro next_nx6 nx6 hnx6 ⟨v3, v4, v5⟩ r h
    try dsimp only at h
    conv => lhs; whnf
    try rw [len_of (l := v5) (r := rRecord)]
    cases hb7 : (decide (v4 < (v5.length : Int)))
    · replace h := ifF h (decF hb7)
      conv => lhs; whnf
      obtain ⟨hg12, h⟩ := grd_inv h
      try rw [List.length_map]
      try (rw [decide_eq_true hg12.1]; conv => lhs; whnf)
      try (rw [decide_eq_true hg12.2])
      conv => lhs; whnf
      first | (rw [wipe_of (r := rRecord) (l := v5) (x := (⟨(⟨#[]⟩ : ByteArray), 0, 0, (⟨#[]⟩ : ByteArray), (⟨#[]⟩ : ByteArray)⟩ : Record)) ?hh]; case hh => exact rfl) | skip
      obtain ⟨hg13, h⟩ := grd_inv h
      try rw [List.length_map]
      try (rw [decide_eq_true hg13.1]; conv => lhs; whnf)
      try (rw [decide_eq_true hg13.2])
      conv => lhs; whnf
      try rw [take_of (r := rRecord) (l := (v5.take (Int.toNat v3) ++ List.replicate (v5.length - (Int.toNat v3)) (⟨(⟨#[]⟩ : ByteArray), 0, 0, (⟨#[]⟩ : ByteArray), (⟨#[]⟩ : ByteArray)⟩ : Record)))]
      obtain rfl := Option.some.inj h
      show _ = _
      kernel_rfl
    · replace h := ifT h (decT hb7)
      conv => lhs; whnf
      obtain ⟨x8, hq_x8, hx_x8', h⟩ := getK_inv h
      have hx_x8 := get_of (r := rRecord) hx_x8'
      try (rw [decide_eq_true hq_x8]; conv => lhs; whnf)
      rw [hx_x8]
      conv => lhs; whnf
      rw [hx_x8]
      conv => lhs; whnf
      obtain ⟨y9, h_y9, h⟩ := callK_inv h
      rw [cl_eq hcl (L_impl_dropHidden_c3 x8 a_1 h_y9)]
      rotate_left
      · show _ = _
        kernel_rfl
      · show _ = _
        kernel_rfl
      conv => lhs; whnf
      cases hb10 : y9
      · replace h := ifF h (booF hb10)
        conv => lhs; whnf
        obtain ⟨x11, hq_x11, hx_x11', h⟩ := getK_inv h
        have hx_x11 := get_of (r := rRecord) hx_x11'
        try (rw [decide_eq_true hq_x11]; conv => lhs; whnf)
        rw [hx_x11]
        conv => lhs; whnf
        rw [hx_x11]
        conv => lhs; whnf
        first | (rw [map_set_of (r := rRecord) (l := v5) (x := x8) ?hh]; case hh => exact rfl) | skip
        exact hnx6 _ _ _ _ (fun kk => by kernel_rfl) h
      · replace h := ifT h hb10
        conv => lhs; whnf
        exact hnx6 _ _ _ _ (fun kk => by kernel_rfl) h
  · replace h := ifT h (beqT hb2)
    conv => lhs; whnf
    obtain rfl := Option.some.inj h
    show _ = _
    kernel_rfl

noncomputable def p_impl_dropHidden (a_0 : List Record) (a_1 : List Int) (a_2 : Bool) : Option (List Record) :=
  grd (appOk a_0.length 64 = true) <|
  callK (p_slices_DeleteFunc_impl_dropHidden_c1 a_0 a_0 a_1) fun y1 =>
  if a_2 = true then
    grd (appOk y1.length 64 = true) <|
    callK (p_slices_DeleteFunc_impl_dropHidden_c2 y1) fun y3 =>
    callK (p_slices_DeleteFunc_impl_dropHidden_c3 y1 y3) fun y4 =>
    some y4
  else
    some y1

set_option maxHeartbeats 4000000 in
theorem L_impl_dropHidden (a_0 : List Record) (a_1 : List Int) (a_2 : Bool) {r : (List Record)} (h : p_impl_dropHidden a_0 a_1 a_2 = some r) : callL E 85 [.d (.arr (a_0.map rRecord)), .d (.arr (a_1.map rI)), BO a_2] ([] : Fo) = some (.d (.arr (r.map rRecord)), ([] : Fo)) := by
  unfold p_impl_dropHidden at h
  refine callW (fu := Try.f85) rfl rfl rfl NN ?_
  intro lp cl hlp hcl
  conv => lhs; whnf
  obtain ⟨hg5, h⟩ := grd_inv h
  rw [cl_eq hcl (f_clone (rows := a_0.map rRecord) rfl (app_eq hg5 (List.length_map ..) rfl) (allLen_map rRecord _ rRecord_len _) rfl)]
  rotate_left
  · exact rfl
  · exact rfl
  conv => lhs; whnf
  obtain ⟨y1, h_y1, h⟩ := callK_inv h
  rw [cl_eq hcl (L_slices_DeleteFunc_impl_dropHidden_c1 a_0 a_0 a_1 h_y1)]
  rotate_left
  · show _ = _
    kernel_rfl
  · show _ = _
    kernel_rfl
  conv => lhs; whnf
  cases hb2 : a_2
  · replace h := ifF h (booF hb2)
    conv => lhs; whnf
    obtain rfl := Option.some.inj h
    show _ = _
    kernel_rfl
  · replace h := ifT h hb2
    conv => lhs; whnf
    obtain ⟨hg6, h⟩ := grd_inv h
    rw [cl_eq hcl (f_cloneO (e' := 30) (es := 5) (rows := y1.map rRecord) rfl (app_eq hg6 (List.length_map ..) rfl) rfl rfl)]
    rotate_left
    · exact rfl
    · exact rfl
    conv => lhs; whnf
    obtain ⟨y3, h_y3, h⟩ := callK_inv h
    rw [cl_eq hcl (L_slices_DeleteFunc_impl_dropHidden_c2 y1 h_y3)]
    rotate_left
    · show _ = _
      kernel_rfl
    · show _ = _
      kernel_rfl
    conv => lhs; whnf
    obtain ⟨y4, h_y4, h⟩ := callK_inv h
    rw [cl_eq hcl (L_slices_DeleteFunc_impl_dropHidden_c3 y1 y3 h_y4)]
    rotate_left
    · show _ = _
      kernel_rfl
    · show _ = _
      kernel_rfl
    conv => lhs; whnf
    obtain rfl := Option.some.inj h
    show _ = _
    kernel_rfl

noncomputable def p_impl_DropHidden (a_0 : List Record) (a_1 : List Int) (a_2 : Bool) : Option (List Record) :=
  callK (p_impl_ValidRun a_0) fun y1 =>
  if y1 = true then
    callK (p_impl_snapshotsOk a_1) fun y3 =>
    if y3 = true then
      callK (p_impl_dropHidden a_0 a_1 a_2) fun y5 =>
      some y5
    else
      some ([] : List Record)
  else
    some ([] : List Record)

set_option maxHeartbeats 4000000 in
theorem L_impl_DropHidden (a_0 : List Record) (a_1 : List Int) (a_2 : Bool) {r : (List Record)} (h : p_impl_DropHidden a_0 a_1 a_2 = some r) : callL E 18 [.d (.arr (a_0.map rRecord)), .d (.arr (a_1.map rI)), BO a_2] ([] : Fo) = some (.d (.arr (r.map rRecord)), ([] : Fo)) := by
  unfold p_impl_DropHidden at h
  refine callW (fu := Try.f18) rfl rfl rfl NN ?_
  intro lp cl hlp hcl
  conv => lhs; whnf
  obtain ⟨y1, h_y1, h⟩ := callK_inv h
  rw [cl_eq hcl (L_impl_ValidRun a_0 h_y1)]
  rotate_left
  · show _ = _
    kernel_rfl
  · show _ = _
    kernel_rfl
  conv => lhs; whnf
  cases hb2 : y1
  · replace h := ifF h (booF hb2)
    conv => lhs; whnf
    try (rw [hb2]; conv => lhs; whnf)
    try (rw [hb2]; conv => lhs; whnf)
    try (rw [hb2]; conv => lhs; whnf)
    obtain rfl := Option.some.inj h
    show _ = _
    kernel_rfl
  · replace h := ifT h hb2
    conv => lhs; whnf
    try (rw [hb2]; conv => lhs; whnf)
    obtain ⟨y3, h_y3, h⟩ := callK_inv h
    rw [cl_eq hcl (L_impl_snapshotsOk a_1 h_y3)]
    rotate_left
    · show _ = _
      kernel_rfl
    · show _ = _
      kernel_rfl
    conv => lhs; whnf
    try (rw [hb2]; conv => lhs; whnf)
    try (rw [hb2]; conv => lhs; whnf)
    cases hb4 : y3
    · replace h := ifF h (booF hb4)
      conv => lhs; whnf
      obtain rfl := Option.some.inj h
      show _ = _
      kernel_rfl
    · replace h := ifT h hb4
      conv => lhs; whnf
      obtain ⟨y5, h_y5, h⟩ := callK_inv h
      rw [cl_eq hcl (L_impl_dropHidden a_0 a_1 a_2 h_y5)]
      rotate_left
      · show _ = _
        kernel_rfl
      · show _ = _
        kernel_rfl
      conv => lhs; whnf
      obtain rfl := Option.some.inj h
      show _ = _
      kernel_rfl

noncomputable def p_spec_l17Key (a_0 : ByteArray) : Option Bool :=
  if (ByteArray.size a_0 : Int) ≥ 1 then
    some (decide ((ByteArray.size a_0 : Int) ≤ 8))
  else
    some false

set_option maxHeartbeats 4000000 in
theorem L_spec_l17Key (a_0 : ByteArray) {r : Bool} (h : p_spec_l17Key a_0 = some r) : callL E 147 [ST a_0] ([] : Fo) = some (BO r, ([] : Fo)) := by
  unfold p_spec_l17Key at h
  refine callW (fu := Try.f147) rfl rfl rfl NN ?_
  intro lp cl hlp hcl
  conv => lhs; whnf
  cases hb1 : (decide ((ByteArray.size a_0 : Int) ≥ 1))
  · replace h := ifF h (decF hb1)
    conv => lhs; whnf
    try (rw [hb1]; conv => lhs; whnf)
    try (rw [hb1]; conv => lhs; whnf)
    try (rw [hb1]; conv => lhs; whnf)
    obtain rfl := Option.some.inj h
    show _ = _
    kernel_rfl
  · replace h := ifT h (decT hb1)
    conv => lhs; whnf
    try (rw [hb1]; conv => lhs; whnf)
    try (rw [hb1]; conv => lhs; whnf)
    try (rw [hb1]; conv => lhs; whnf)
    obtain rfl := Option.some.inj h
    show _ = _
    kernel_rfl

noncomputable def p_spec_l17Valid (a_0 : Record) : Option Bool :=
  callK (p_spec_l17Key a_0.Key) fun y1 =>
  if y1 = true then
    if (inR a_0.Seq 1 1000000) = true then
      if a_0.Kind = 1 then
        if (ByteArray.size a_0.Value : Int) ≤ 16 then
          some (a_0.End.toList == (⟨#[]⟩ : ByteArray).toList)
        else
          some false
      else
        if a_0.Kind = 2 then
          if (a_0.Value.toList == (⟨#[]⟩ : ByteArray).toList) = true then
            some (a_0.End.toList == (⟨#[]⟩ : ByteArray).toList)
          else
            some false
        else
          if a_0.Kind = 3 then
            if (a_0.Value.toList == (⟨#[]⟩ : ByteArray).toList) = true then
              callK (p_spec_l17Key a_0.End) fun y10 =>
              if y10 = true then
                some (Op.bytesLess a_0.Key.toList a_0.End.toList)
              else
                some false
            else
              some false
          else
            some false
    else
      some false
  else
    some false

set_option maxHeartbeats 4000000 in
theorem L_spec_l17Valid (a_0 : Record) {r : Bool} (h : p_spec_l17Valid a_0 = some r) : callL E 133 [.agg [ST a_0.Key, IN a_0.Seq, IN a_0.Kind, ST a_0.Value, ST a_0.End]] ([] : Fo) = some (BO r, ([] : Fo)) := by
  unfold p_spec_l17Valid at h
  refine callW (fu := Try.f133) rfl rfl rfl NN ?_
  intro lp cl hlp hcl
  conv => lhs; whnf
  obtain ⟨y1, h_y1, h⟩ := callK_inv h
  rw [cl_eq hcl (L_spec_l17Key a_0.Key h_y1)]
  rotate_left
  · show _ = _
    kernel_rfl
  · show _ = _
    kernel_rfl
  conv => lhs; whnf
  cases hb2 : y1
  · replace h := ifF h (booF hb2)
    conv => lhs; whnf
    try (rw [hb2]; conv => lhs; whnf)
    try (rw [hb2]; conv => lhs; whnf)
    try (rw [hb2]; conv => lhs; whnf)
    try (rw [hb2]; conv => lhs; whnf)
    obtain rfl := Option.some.inj h
    show _ = _
    kernel_rfl
  · replace h := ifT h hb2
    try rw [hb2] at h
    conv => lhs; whnf
    try (rw [hb2]; conv => lhs; whnf)
    try (rw [hb2]; conv => lhs; whnf)
    rw [cl_eq hcl (L_spec_l00In a_0.Seq 1 1000000 (pl_l00In a_0.Seq 1 1000000))]
    rotate_left
    · show _ = _
      kernel_rfl
    · show _ = _
      kernel_rfl
    conv => lhs; whnf
    try (rw [hb2]; conv => lhs; whnf)
    try (rw [hb2]; conv => lhs; whnf)
    cases hb3 : (inR a_0.Seq 1 1000000)
    · replace h := ifF h (booF hb3)
      conv => lhs; whnf
      obtain rfl := Option.some.inj h
      show _ = _
      kernel_rfl
    · replace h := ifT h hb3
      conv => lhs; whnf
      cases hb4 : (a_0.Kind == 1)
      · replace h := ifF h (beqF hb4)
        conv => lhs; whnf
        cases hb6 : (a_0.Kind == 2)
        · replace h := ifF h (beqF hb6)
          conv => lhs; whnf
          cases hb8 : (a_0.Kind == 3)
          · replace h := ifF h (beqF hb8)
            conv => lhs; whnf
            obtain rfl := Option.some.inj h
            show _ = _
            kernel_rfl
          · replace h := ifT h (beqT hb8)
            conv => lhs; whnf
            cases hb9 : (a_0.Value.toList == (⟨#[]⟩ : ByteArray).toList)
            · replace h := ifF h (booF hb9)
              conv => lhs; whnf
              try (rw [hb9]; conv => lhs; whnf)
              try (rw [hb9]; conv => lhs; whnf)
              try (rw [hb9]; conv => lhs; whnf)
              obtain rfl := Option.some.inj h
              show _ = _
              kernel_rfl
            · replace h := ifT h hb9
              conv => lhs; whnf
              try (rw [hb9]; conv => lhs; whnf)
              try (rw [hb9]; conv => lhs; whnf)
              obtain ⟨y10, h_y10, h⟩ := callK_inv h
              rw [cl_eq hcl (L_spec_l17Key a_0.End h_y10)]
              rotate_left
              · show _ = _
                kernel_rfl
              · show _ = _
                kernel_rfl
              conv => lhs; whnf
              try (rw [hb9]; conv => lhs; whnf)
              cases hb11 : y10
              · replace h := ifF h (booF hb11)
                conv => lhs; whnf
                try (rw [hb11]; conv => lhs; whnf)
                try (rw [hb11]; conv => lhs; whnf)
                try (rw [hb11]; conv => lhs; whnf)
                try (rw [hb11]; conv => lhs; whnf)
                try (rw [hb11]; conv => lhs; whnf)
                obtain rfl := Option.some.inj h
                show _ = _
                kernel_rfl
              · replace h := ifT h hb11
                conv => lhs; whnf
                try (rw [hb11]; conv => lhs; whnf)
                try (rw [hb11]; conv => lhs; whnf)
                try (rw [hb11]; conv => lhs; whnf)
                try (rw [hb11]; conv => lhs; whnf)
                try (rw [hb11]; conv => lhs; whnf)
                obtain rfl := Option.some.inj h
                show _ = _
                kernel_rfl
        · replace h := ifT h (beqT hb6)
          conv => lhs; whnf
          cases hb7 : (a_0.Value.toList == (⟨#[]⟩ : ByteArray).toList)
          · replace h := ifF h (booF hb7)
            conv => lhs; whnf
            try (rw [hb7]; conv => lhs; whnf)
            try (rw [hb7]; conv => lhs; whnf)
            try (rw [hb7]; conv => lhs; whnf)
            obtain rfl := Option.some.inj h
            show _ = _
            kernel_rfl
          · replace h := ifT h hb7
            conv => lhs; whnf
            try (rw [hb7]; conv => lhs; whnf)
            try (rw [hb7]; conv => lhs; whnf)
            try (rw [hb7]; conv => lhs; whnf)
            obtain rfl := Option.some.inj h
            show _ = _
            kernel_rfl
      · replace h := ifT h (beqT hb4)
        conv => lhs; whnf
        cases hb5 : (decide ((ByteArray.size a_0.Value : Int) ≤ 16))
        · replace h := ifF h (decF hb5)
          conv => lhs; whnf
          try (rw [hb5]; conv => lhs; whnf)
          try (rw [hb5]; conv => lhs; whnf)
          try (rw [hb5]; conv => lhs; whnf)
          obtain rfl := Option.some.inj h
          show _ = _
          kernel_rfl
        · replace h := ifT h (decT hb5)
          conv => lhs; whnf
          try (rw [hb5]; conv => lhs; whnf)
          try (rw [hb5]; conv => lhs; whnf)
          try (rw [hb5]; conv => lhs; whnf)
          obtain rfl := Option.some.inj h
          show _ = _
          kernel_rfl

noncomputable def p_spec_l17Run (a_0 : List Record) : Option Bool :=
  grd (a_0.length < 4611686018427387904) <|
  forK a_0 (fun (i26 : Nat) x28 (_ : Unit) (nx27 : Unit → Option _) =>
    callK (p_spec_l17Valid x28) fun y29 =>
    if y29 = true then
      if (i26 : Int) > 0 then
        getK a_0 (IntKind.i64.wrap ((i26 : Int) - 1)) fun x32 =>
        callK (p_spec_l17Less x32 x28) fun y33 =>
        if y33 = true then
          grd ((i26 : Int) < 4611686018427387904) <|
          forI (i26 : Int) (fun (i39 : Nat) (_ : Unit) (nx40 : Unit → Option _) =>
            getK a_0 (i39 : Int) fun x41 =>
            if x41.Seq = x28.Seq then
              some false
            else
              nx40 ()) () (fun (_ : Unit) =>
            nx27 ())
        else
          some false
      else
        grd ((i26 : Int) < 4611686018427387904) <|
        forI (i26 : Int) (fun (i47 : Nat) (_ : Unit) (nx48 : Unit → Option _) =>
          getK a_0 (i47 : Int) fun x49 =>
          if x49.Seq = x28.Seq then
            some false
          else
            nx48 ()) () (fun (_ : Unit) =>
          nx27 ())
    else
      some false) () (fun (_ : Unit) =>
    some true)

set_option maxHeartbeats 4000000 in
theorem L_spec_l17Run (a_0 : List Record) {r : Bool} (h : p_spec_l17Run a_0 = some r) : callL E 86 [.d (.arr (a_0.map rRecord))] ([] : Fo) = some (BO r, ([] : Fo)) := by
  unfold p_spec_l17Run at h
  refine callW (fu := Try.f86) rfl rfl rfl NN ?_
  intro lp cl hlp hcl
  conv => lhs; whnf
  obtain ⟨hl_i26, h⟩ := grd_inv h
  refine loop_for hlp (l := a_0) hl_i26 (fun (i26 : Nat) (_ : Unit) => ([.d (.arr (a_0.map rRecord)), .dead, .dead, IN (i26 : Int)] ++ List.replicate 46 .dead : List V)) (fun (i26 : Nat) (_ : Unit) => ([] : Fo)) (fun (r : Bool) => ((BO r : V), ([] : Fo))) ?_ ?_ () _ (fun kk => by kernel_rfl) h
  · clear h
    rintro next_nx27 nx27 i26 hi_i26 hnx27 ⟨⟩ r h
    try dsimp only at h
    have hn_i26 : i26 < 4611686018427387904 := by omega
    have hx_x28 := get_map rRecord a_0 i26 hi_i26
    generalize a_0[i26] = x28 at h hx_x28
    have hd_i26 : (decide ((i26 : Int) < (a_0.length : Int))) = true := decide_eq_true (by omega)
    conv => lhs; whnf
    try rw [len_of (l := a_0) (r := rRecord)]
    rw [hd_i26]
    conv => lhs; whnf
    try (rw [decide_eq_true hq_x28]; conv => lhs; whnf)
    rw [hx_x28]
    conv => lhs; whnf
    rw [hx_x28]
    conv => lhs; whnf
    obtain ⟨y29, h_y29, h⟩ := callK_inv h
    rw [cl_eq hcl (L_spec_l17Valid x28 h_y29)]
    rotate_left
    · show _ = _
      kernel_rfl
    · show _ = _
      kernel_rfl
    conv => lhs; whnf
    cases hb30 : y29
    · replace h := ifF h (booF hb30)
      conv => lhs; whnf
      try (rw [hb30]; conv => lhs; whnf)
      try (rw [hb30]; conv => lhs; whnf)
      try (rw [hb30]; conv => lhs; whnf)
      try (rw [hb30]; conv => lhs; whnf)
      obtain rfl := Option.some.inj h
      show _ = _
      kernel_rfl
    · replace h := ifT h hb30
      conv => lhs; whnf
      try (rw [hb30]; conv => lhs; whnf)
      try (rw [hb30]; conv => lhs; whnf)
      cases hb31 : (decide ((i26 : Int) > 0))
      · replace h := ifF h (decF hb31)
        conv => lhs; whnf
        try (rw [hb31]; conv => lhs; whnf)
        try (rw [hb31]; conv => lhs; whnf)
        try (rw [hb31]; conv => lhs; whnf)
        try (rw [hb31]; conv => lhs; whnf)
        try (rw [hb31]; conv => lhs; whnf)
        try (rw [hb31]; conv => lhs; whnf)
        try (rw [hb31]; conv => lhs; whnf)
        try (rw [hb31]; conv => lhs; whnf)
        try (rw [hb31]; conv => lhs; whnf)
        try (rw [hb31]; conv => lhs; whnf)
        try (rw [hb30]; conv => lhs; whnf)
        try (rw [hb31]; conv => lhs; whnf)
        try (rw [hb30]; conv => lhs; whnf)
        obtain ⟨hl_i47, h⟩ := grd_inv h
        refine loop_forI hlp (n := (i26 : Int)) hl_i47 (fun (i47 : Nat) (_ : Unit) => ([.d (.arr (a_0.map rRecord)), .dead, .dead, IN (i26 : Int), IN (i47 : Int)] ++ List.replicate 45 .dead : List V)) (fun (i47 : Nat) (_ : Unit) => ([] : Fo)) (fun (r : Bool) => ((BO r : V), ([] : Fo))) ?_ ?_ () _ (fun kk => by kernel_rfl) h
        · clear h
          rintro next_nx48 nx48 i47 hi_i47 hnx48 ⟨⟩ r h
          try dsimp only at h
          have hn_i47 : i47 < 4611686018427387904 := by omega
          have hd_i47 : (decide ((i47 : Int) < (i26 : Int))) = true := decide_eq_true (by omega)
          conv => lhs; whnf
          rw [hd_i47]
          conv => lhs; whnf
          obtain ⟨x49, hq_x49, hx_x49', h⟩ := getK_inv h
          have hx_x49 := get_of (r := rRecord) hx_x49'
          try (rw [decide_eq_true hq_x49]; conv => lhs; whnf)
          rw [hx_x49]
          conv => lhs; whnf
          rw [hx_x49]
          conv => lhs; whnf
          try (rw [decide_eq_true hq_x28]; conv => lhs; whnf)
          rw [hx_x28]
          conv => lhs; whnf
          rw [hx_x28]
          conv => lhs; whnf
          cases hb50 : (x49.Seq == x28.Seq)
          · replace h := ifF h (beqF hb50)
            conv => lhs; whnf
            rw [wrap_nat i47 (by have := hn_i47; omega)]
            exact hnx48 _ _ _ _ (fun kk => by kernel_rfl) h
          · replace h := ifT h (beqT hb50)
            conv => lhs; whnf
            obtain rfl := Option.some.inj h
            show _ = _
            kernel_rfl
        · clear h
          rintro next_nx48 ⟨⟩ r h
          try dsimp only at h
          have hd_i47 : (decide (((Int.toNat (i26 : Int)) : Int) < (i26 : Int))) = false := decide_eq_false (by omega)
          conv => lhs; whnf
          rw [hd_i47]
          conv => lhs; whnf
          rw [wrap_nat i26 (by have := hn_i26; omega)]
          exact hnx27 _ _ _ _ (fun kk => by kernel_rfl) h
      · replace h := ifT h (decT hb31)
        conv => lhs; whnf
        try (rw [hb31]; conv => lhs; whnf)
        try (rw [hb31]; conv => lhs; whnf)
        try (rw [hb31]; conv => lhs; whnf)
        obtain ⟨x32, hq_x32, hx_x32', h⟩ := getK_inv h
        have hx_x32 := get_of (r := rRecord) hx_x32'
        try (rw [decide_eq_true hq_x32]; conv => lhs; whnf)
        rw [hx_x32]
        conv => lhs; whnf
        try (rw [hb31]; conv => lhs; whnf)
        rw [hx_x32]
        conv => lhs; whnf
        try (rw [hb31]; conv => lhs; whnf)
        try (rw [hb31]; conv => lhs; whnf)
        try (rw [hb31]; conv => lhs; whnf)
        try (rw [decide_eq_true hq_x28]; conv => lhs; whnf)
        rw [hx_x28]
        conv => lhs; whnf
        try (rw [hb31]; conv => lhs; whnf)
        rw [hx_x28]
        conv => lhs; whnf
        try (rw [hb31]; conv => lhs; whnf)
        obtain ⟨y33, h_y33, h⟩ := callK_inv h
        rw [cl_eq hcl (L_spec_l17Less x32 x28 h_y33)]
        rotate_left
        · show _ = _
          kernel_rfl
        · show _ = _
          kernel_rfl
        conv => lhs; whnf
        try (rw [hb31]; conv => lhs; whnf)
        try (rw [hb30]; conv => lhs; whnf)
        try (rw [hb31]; conv => lhs; whnf)
        try (rw [hb30]; conv => lhs; whnf)
        cases hb34 : y33
        · replace h := ifF h (booF hb34)
          conv => lhs; whnf
          obtain rfl := Option.some.inj h
          show _ = _
          kernel_rfl
        · replace h := ifT h hb34
          conv => lhs; whnf
          obtain ⟨hl_i39, h⟩ := grd_inv h
          refine loop_forI hlp (n := (i26 : Int)) hl_i39 (fun (i39 : Nat) (_ : Unit) => ([.d (.arr (a_0.map rRecord)), .dead, .dead, IN (i26 : Int), IN (i39 : Int)] ++ List.replicate 45 .dead : List V)) (fun (i39 : Nat) (_ : Unit) => ([] : Fo)) (fun (r : Bool) => ((BO r : V), ([] : Fo))) ?_ ?_ () _ (fun kk => by kernel_rfl) h
          · clear h
            rintro next_nx40 nx40 i39 hi_i39 hnx40 ⟨⟩ r h
            try dsimp only at h
            have hn_i39 : i39 < 4611686018427387904 := by omega
            have hd_i39 : (decide ((i39 : Int) < (i26 : Int))) = true := decide_eq_true (by omega)
            conv => lhs; whnf
            rw [hd_i39]
            conv => lhs; whnf
            obtain ⟨x41, hq_x41, hx_x41', h⟩ := getK_inv h
            have hx_x41 := get_of (r := rRecord) hx_x41'
            try (rw [decide_eq_true hq_x41]; conv => lhs; whnf)
            rw [hx_x41]
            conv => lhs; whnf
            rw [hx_x41]
            conv => lhs; whnf
            try (rw [decide_eq_true hq_x28]; conv => lhs; whnf)
            rw [hx_x28]
            conv => lhs; whnf
            rw [hx_x28]
            conv => lhs; whnf
            cases hb42 : (x41.Seq == x28.Seq)
            · replace h := ifF h (beqF hb42)
              conv => lhs; whnf
              rw [wrap_nat i39 (by have := hn_i39; omega)]
              exact hnx40 _ _ _ _ (fun kk => by kernel_rfl) h
            · replace h := ifT h (beqT hb42)
              conv => lhs; whnf
              obtain rfl := Option.some.inj h
              show _ = _
              kernel_rfl
          · clear h
            rintro next_nx40 ⟨⟩ r h
            try dsimp only at h
            have hd_i39 : (decide (((Int.toNat (i26 : Int)) : Int) < (i26 : Int))) = false := decide_eq_false (by omega)
            conv => lhs; whnf
            rw [hd_i39]
            conv => lhs; whnf
            rw [wrap_nat i26 (by have := hn_i26; omega)]
            exact hnx27 _ _ _ _ (fun kk => by kernel_rfl) h
  · clear h
    rintro next_nx27 ⟨⟩ r h
    try dsimp only at h
    have hd_i26 : (decide ((a_0.length : Int) < (a_0.length : Int))) = false := decide_eq_false (by omega)
    conv => lhs; whnf
    try rw [len_of (l := a_0) (r := rRecord)]
    rw [hd_i26]
    conv => lhs; whnf
    obtain rfl := Option.some.inj h
    show _ = _
    kernel_rfl

noncomputable def p_spec_l24Merge (a_0 : List (List Record)) : Option (List Record) :=
  grd (a_0.length < 4611686018427387904) <|
  forK a_0 (fun (i11 : Nat) x14 (v12 : List Record) (nx13 : (List Record) → Option _) =>
    grd ((x14.length : Int) < 4611686018427387904) <|
    forI (x14.length : Int) (fun (i20 : Nat) (v21 : List Record) (nx22 : (List Record) → Option _) =>
      getK x14 (i20 : Int) fun x23 =>
      callK (p_spec_l17Into v21 x23) fun y24 =>
      nx22 y24) v12 (fun (v21 : List Record) =>
      nx13 v21)) ([] : List Record) (fun (v12 : List Record) =>
    some v12)

set_option maxHeartbeats 4000000 in
theorem L_spec_l24Merge (a_0 : List (List Record)) {r : (List Record)} (h : p_spec_l24Merge a_0 = some r) : callL E 87 [.d (.arr (a_0.map (rL rRecord)))] ([] : Fo) = some (.d (.arr (r.map rRecord)), ([] : Fo)) := by
  unfold p_spec_l24Merge at h
  refine callW (fu := Try.f87) rfl rfl rfl NN ?_
  intro lp cl hlp hcl
  conv => lhs; whnf
  obtain ⟨hl_i11, h⟩ := grd_inv h
  refine loop_for hlp (l := a_0) hl_i11 (fun (i11 : Nat) (v12 : List Record) => ([.d (.arr (a_0.map (rL rRecord))), .dead, .dead, .d (.arr (v12.map rRecord)), IN (i11 : Int)] ++ List.replicate 27 .dead : List V)) (fun (i11 : Nat) (v12 : List Record) => ([] : Fo)) (fun (r : (List Record)) => ((.d (.arr (r.map rRecord)) : V), ([] : Fo))) ?_ ?_ ([] : List Record) _ (fun kk => by kernel_rfl) h
  · clear h
    rintro next_nx13 nx13 i11 hi_i11 hnx13 v12 r h
    try dsimp only at h
    have hn_i11 : i11 < 4611686018427387904 := by omega
    have hx_x14 := get_map (rL rRecord) a_0 i11 hi_i11
    generalize a_0[i11] = x14 at h hx_x14
    have hd_i11 : (decide ((i11 : Int) < (a_0.length : Int))) = true := decide_eq_true (by omega)
    conv => lhs; whnf
    try rw [len_of (l := a_0) (r := (rL rRecord))]
    rw [hd_i11]
    conv => lhs; whnf
    obtain ⟨hl_i20, h⟩ := grd_inv h
    refine loop_forI hlp (n := (x14.length : Int)) hl_i20 (fun (i20 : Nat) (v21 : List Record) => ([.d (.arr (a_0.map (rL rRecord))), .dead, .dead, .d (.arr (v21.map rRecord)), IN (i11 : Int), IN (i20 : Int)] ++ List.replicate 26 .dead : List V)) (fun (i20 : Nat) (v21 : List Record) => ([] : Fo)) (fun (r : (List Record)) => ((.d (.arr (r.map rRecord)) : V), ([] : Fo))) ?_ ?_ v12 _ (fun kk => by kernel_rfl) h
    · clear h
      rintro next_nx22 nx22 i20 hi_i20 hnx22 v21 r h
      try dsimp only at h
      have hn_i20 : i20 < 4611686018427387904 := by omega
      have hd_i20 : (decide ((i20 : Int) < (x14.length : Int))) = true := decide_eq_true (by omega)
      conv => lhs; whnf
      try (rw [decide_eq_true hq_x14]; conv => lhs; whnf)
      rw [hx_x14]
      conv => lhs; whnf
      rw [hx_x14]
      conv => lhs; whnf
      try rw [len_of (l := x14) (r := rRecord)]
      rw [hd_i20]
      conv => lhs; whnf
      try (rw [decide_eq_true hq_x14]; conv => lhs; whnf)
      rw [hx_x14]
      conv => lhs; whnf
      rw [hx_x14]
      conv => lhs; whnf
      obtain ⟨x23, hq_x23, hx_x23', h⟩ := getK_inv h
      have hx_x23 := get_of (r := rRecord) hx_x23'
      try (rw [decide_eq_true hq_x23]; conv => lhs; whnf)
      rw [hx_x23]
      conv => lhs; whnf
      rw [hx_x23]
      conv => lhs; whnf
      obtain ⟨y24, h_y24, h⟩ := callK_inv h
      rw [cl_eq hcl (L_spec_l17Into v21 x23 h_y24)]
      rotate_left
      · show _ = _
        kernel_rfl
      · show _ = _
        kernel_rfl
      conv => lhs; whnf
      rw [wrap_nat i20 (by have := hn_i20; omega)]
      exact hnx22 _ _ _ _ (fun kk => by kernel_rfl) h
    · clear h
      rintro next_nx22 v21 r h
      try dsimp only at h
      have hd_i20 : (decide (((Int.toNat (x14.length : Int)) : Int) < (x14.length : Int))) = false := decide_eq_false (by omega)
      conv => lhs; whnf
      try (rw [decide_eq_true hq_x14]; conv => lhs; whnf)
      rw [hx_x14]
      conv => lhs; whnf
      rw [hx_x14]
      conv => lhs; whnf
      try rw [len_of (l := x14) (r := rRecord)]
      rw [hd_i20]
      conv => lhs; whnf
      rw [wrap_nat i11 (by have := hn_i11; omega)]
      exact hnx13 _ _ _ _ (fun kk => by kernel_rfl) h
  · clear h
    rintro next_nx13 v12 r h
    try dsimp only at h
    have hd_i11 : (decide ((a_0.length : Int) < (a_0.length : Int))) = false := decide_eq_false (by omega)
    conv => lhs; whnf
    try rw [len_of (l := a_0) (r := (rL rRecord))]
    rw [hd_i11]
    conv => lhs; whnf
    obtain rfl := Option.some.inj h
    show _ = _
    kernel_rfl

noncomputable def p_spec_MergeRecords (a_0 : List (List Record)) : Option (List Record) :=
  grd (a_0.length < 4611686018427387904) <|
  forK a_0 (fun (i6 : Nat) x8 (_ : Unit) (nx7 : Unit → Option _) =>
    callK (p_spec_l17Run x8) fun y9 =>
    if y9 = true then
      nx7 ()
    else
      some ([] : List Record)) () (fun (_ : Unit) =>
    callK (p_spec_l24Merge a_0) fun y11 =>
    callK (p_spec_l17Run y11) fun y12 =>
    if y12 = true then
      some y11
    else
      some ([] : List Record))

set_option maxHeartbeats 4000000 in
theorem L_spec_MergeRecords (a_0 : List (List Record)) {r : (List Record)} (h : p_spec_MergeRecords a_0 = some r) : callL E 19 [.d (.arr (a_0.map (rL rRecord)))] ([] : Fo) = some (.d (.arr (r.map rRecord)), ([] : Fo)) := by
  unfold p_spec_MergeRecords at h
  refine callW (fu := Try.f19) rfl rfl rfl NN ?_
  intro lp cl hlp hcl
  conv => lhs; whnf
  obtain ⟨hl_i6, h⟩ := grd_inv h
  refine loop_for hlp (l := a_0) hl_i6 (fun (i6 : Nat) (_ : Unit) => ([.d (.arr (a_0.map (rL rRecord))), .dead, .dead, IN (i6 : Int)] ++ List.replicate 21 .dead : List V)) (fun (i6 : Nat) (_ : Unit) => ([] : Fo)) (fun (r : (List Record)) => ((.d (.arr (r.map rRecord)) : V), ([] : Fo))) ?_ ?_ () _ (fun kk => by kernel_rfl) h
  · clear h
    rintro next_nx7 nx7 i6 hi_i6 hnx7 ⟨⟩ r h
    try dsimp only at h
    have hn_i6 : i6 < 4611686018427387904 := by omega
    have hx_x8 := get_map (rL rRecord) a_0 i6 hi_i6
    generalize a_0[i6] = x8 at h hx_x8
    have hd_i6 : (decide ((i6 : Int) < (a_0.length : Int))) = true := decide_eq_true (by omega)
    conv => lhs; whnf
    try rw [len_of (l := a_0) (r := (rL rRecord))]
    rw [hd_i6]
    conv => lhs; whnf
    try (rw [decide_eq_true hq_x8]; conv => lhs; whnf)
    rw [hx_x8]
    conv => lhs; whnf
    rw [hx_x8]
    conv => lhs; whnf
    obtain ⟨y9, h_y9, h⟩ := callK_inv h
    rw [cl_eq hcl (L_spec_l17Run x8 h_y9)]
    rotate_left
    · show _ = _
      kernel_rfl
    · show _ = _
      kernel_rfl
    conv => lhs; whnf
    cases hb10 : y9
    · replace h := ifF h (booF hb10)
      conv => lhs; whnf
      obtain rfl := Option.some.inj h
      show _ = _
      kernel_rfl
    · replace h := ifT h hb10
      conv => lhs; whnf
      rw [wrap_nat i6 (by have := hn_i6; omega)]
      exact hnx7 _ _ _ _ (fun kk => by kernel_rfl) h
  · clear h
    rintro next_nx7 ⟨⟩ r h
    try dsimp only at h
    have hd_i6 : (decide ((a_0.length : Int) < (a_0.length : Int))) = false := decide_eq_false (by omega)
    conv => lhs; whnf
    try rw [len_of (l := a_0) (r := (rL rRecord))]
    rw [hd_i6]
    conv => lhs; whnf
    obtain ⟨y11, h_y11, h⟩ := callK_inv h
    rw [cl_eq hcl (L_spec_l24Merge a_0 h_y11)]
    rotate_left
    · show _ = _
      kernel_rfl
    · show _ = _
      kernel_rfl
    conv => lhs; whnf
    obtain ⟨y12, h_y12, h⟩ := callK_inv h
    rw [cl_eq hcl (L_spec_l17Run y11 h_y12)]
    rotate_left
    · show _ = _
      kernel_rfl
    · show _ = _
      kernel_rfl
    conv => lhs; whnf
    cases hb13 : y12
    · replace h := ifF h (booF hb13)
      conv => lhs; whnf
      obtain rfl := Option.some.inj h
      show _ = _
      kernel_rfl
    · replace h := ifT h hb13
      conv => lhs; whnf
      obtain rfl := Option.some.inj h
      show _ = _
      kernel_rfl

noncomputable def p_spec_l17Affects (a_0 : Record) (a_1 : ByteArray) : Option Bool :=
  if a_0.Kind = 3 then
    if ((Op.bytesLess a_0.Key.toList a_1.toList) || (a_0.Key.toList == a_1.toList)) = true then
      some (Op.bytesLess a_1.toList a_0.End.toList)
    else
      some false
  else
    some (a_0.Key.toList == a_1.toList)

set_option maxHeartbeats 4000000 in
theorem L_spec_l17Affects (a_0 : Record) (a_1 : ByteArray) {r : Bool} (h : p_spec_l17Affects a_0 a_1 = some r) : callL E 148 [.agg [ST a_0.Key, IN a_0.Seq, IN a_0.Kind, ST a_0.Value, ST a_0.End], ST a_1] ([] : Fo) = some (BO r, ([] : Fo)) := by
  unfold p_spec_l17Affects at h
  refine callW (fu := Try.f148) rfl rfl rfl NN ?_
  intro lp cl hlp hcl
  conv => lhs; whnf
  cases hb1 : (a_0.Kind == 3)
  · replace h := ifF h (beqF hb1)
    conv => lhs; whnf
    obtain rfl := Option.some.inj h
    show _ = _
    kernel_rfl
  · replace h := ifT h (beqT hb1)
    conv => lhs; whnf
    cases hb2 : ((Op.bytesLess a_0.Key.toList a_1.toList) || (a_0.Key.toList == a_1.toList))
    · replace h := ifF h (booF hb2)
      conv => lhs; whnf
      try (rw [hb2]; conv => lhs; whnf)
      try (rw [hb2]; conv => lhs; whnf)
      try (rw [hb2]; conv => lhs; whnf)
      try (rw [hb2]; conv => lhs; whnf)
      obtain rfl := Option.some.inj h
      show _ = _
      kernel_rfl
    · replace h := ifT h hb2
      conv => lhs; whnf
      try (rw [hb2]; conv => lhs; whnf)
      try (rw [hb2]; conv => lhs; whnf)
      try (rw [hb2]; conv => lhs; whnf)
      try (rw [hb2]; conv => lhs; whnf)
      obtain rfl := Option.some.inj h
      show _ = _
      kernel_rfl

noncomputable def p_spec_l17Newest (a_0 : List Record) (a_1 : ByteArray) (a_2 : Int) : Option (Record × Bool) :=
  grd (a_0.length < 4611686018427387904) <|
  forK a_0 (fun (i9 : Nat) x12 (v10 : Record) (nx11 : Record → Option _) =>
    callK (p_spec_l17Affects x12 a_1) fun y13 =>
    if y13 = true then
      if x12.Seq ≤ a_2 then
        if x12.Seq > v10.Seq then
          nx11 x12
        else
          nx11 v10
      else
        nx11 v10
    else
      nx11 v10) (⟨(⟨#[]⟩ : ByteArray), 0, 0, (⟨#[]⟩ : ByteArray), (⟨#[]⟩ : ByteArray)⟩ : Record) (fun (v10 : Record) =>
    some (v10, (decide (v10.Seq > 0))))

set_option maxHeartbeats 4000000 in
theorem L_spec_l17Newest (a_0 : List Record) (a_1 : ByteArray) (a_2 : Int) {r : (Record × Bool)} (h : p_spec_l17Newest a_0 a_1 a_2 = some r) : callL E 224 [.d (.arr (a_0.map rRecord)), ST a_1, IN a_2] ([] : Fo) = some (.tup [.agg [ST r.1.Key, IN r.1.Seq, IN r.1.Kind, ST r.1.Value, ST r.1.End], BO r.2], ([] : Fo)) := by
  unfold p_spec_l17Newest at h
  refine callW (fu := Try.f224) rfl rfl rfl NN ?_
  intro lp cl hlp hcl
  conv => lhs; whnf
  obtain ⟨hl_i9, h⟩ := grd_inv h
  refine loop_for hlp (l := a_0) hl_i9 (fun (i9 : Nat) (v10 : Record) => ([.d (.arr (a_0.map rRecord)), ST a_1, IN a_2, .dead, .dead, .dead, .bp 0 0, .dead, .bp 1 0, IN (i9 : Int)] ++ List.replicate 40 .dead : List V)) (fun (i9 : Nat) (v10 : Record) => ([some (.box [ST (⟨#[]⟩ : ByteArray), IN 0, IN 0, ST (⟨#[]⟩ : ByteArray), ST (⟨#[]⟩ : ByteArray)]), some (.box [ST v10.Key, IN v10.Seq, IN v10.Kind, ST v10.Value, ST v10.End])] : Fo)) (fun (r : (Record × Bool)) => ((.tup [.agg [ST r.1.Key, IN r.1.Seq, IN r.1.Kind, ST r.1.Value, ST r.1.End], BO r.2] : V), ([] : Fo))) ?_ ?_ (⟨(⟨#[]⟩ : ByteArray), 0, 0, (⟨#[]⟩ : ByteArray), (⟨#[]⟩ : ByteArray)⟩ : Record) _ (fun kk => by kernel_rfl) h
  · clear h
    rintro next_nx11 nx11 i9 hi_i9 hnx11 v10 r h
    try dsimp only at h
    have hn_i9 : i9 < 4611686018427387904 := by omega
    have hx_x12 := get_map rRecord a_0 i9 hi_i9
    generalize a_0[i9] = x12 at h hx_x12
    have hd_i9 : (decide ((i9 : Int) < (a_0.length : Int))) = true := decide_eq_true (by omega)
    conv => lhs; whnf
    try rw [len_of (l := a_0) (r := rRecord)]
    rw [hd_i9]
    conv => lhs; whnf
    try (rw [decide_eq_true hq_x12]; conv => lhs; whnf)
    rw [hx_x12]
    conv => lhs; whnf
    rw [hx_x12]
    conv => lhs; whnf
    obtain ⟨y13, h_y13, h⟩ := callK_inv h
    rw [cl_eq hcl (L_spec_l17Affects x12 a_1 h_y13)]
    rotate_left
    · show _ = _
      kernel_rfl
    · show _ = _
      kernel_rfl
    conv => lhs; whnf
    cases hb14 : y13
    · replace h := ifF h (booF hb14)
      conv => lhs; whnf
      try (rw [hb14]; conv => lhs; whnf)
      try (rw [hb14]; conv => lhs; whnf)
      try (rw [hb14]; conv => lhs; whnf)
      try (rw [hb14]; conv => lhs; whnf)
      try (rw [hb14]; conv => lhs; whnf)
      try (rw [hb14]; conv => lhs; whnf)
      try (rw [hb14]; conv => lhs; whnf)
      rw [wrap_nat i9 (by have := hn_i9; omega)]
      exact hnx11 _ _ _ _ (fun kk => by kernel_rfl) h
    · replace h := ifT h hb14
      conv => lhs; whnf
      try (rw [hb14]; conv => lhs; whnf)
      try (rw [hb14]; conv => lhs; whnf)
      try (rw [decide_eq_true hq_x12]; conv => lhs; whnf)
      rw [hx_x12]
      conv => lhs; whnf
      try (rw [hb14]; conv => lhs; whnf)
      try (rw [hb14]; conv => lhs; whnf)
      rw [hx_x12]
      conv => lhs; whnf
      try (rw [hb14]; conv => lhs; whnf)
      try (rw [hb14]; conv => lhs; whnf)
      try (rw [hb14]; conv => lhs; whnf)
      cases hb15 : (decide (x12.Seq ≤ a_2))
      · replace h := ifF h (decF hb15)
        conv => lhs; whnf
        try (rw [hb15]; conv => lhs; whnf)
        try (rw [hb15]; conv => lhs; whnf)
        try (rw [hb15]; conv => lhs; whnf)
        try (rw [hb15]; conv => lhs; whnf)
        try (rw [hb15]; conv => lhs; whnf)
        try (rw [hb15]; conv => lhs; whnf)
        try (rw [hb15]; conv => lhs; whnf)
        try (rw [hb15]; conv => lhs; whnf)
        rw [wrap_nat i9 (by have := hn_i9; omega)]
        exact hnx11 _ _ _ _ (fun kk => by kernel_rfl) h
      · replace h := ifT h (decT hb15)
        conv => lhs; whnf
        try (rw [hb15]; conv => lhs; whnf)
        try (rw [hb15]; conv => lhs; whnf)
        try (rw [decide_eq_true hq_x12]; conv => lhs; whnf)
        rw [hx_x12]
        conv => lhs; whnf
        try (rw [hb15]; conv => lhs; whnf)
        try (rw [hb15]; conv => lhs; whnf)
        rw [hx_x12]
        conv => lhs; whnf
        try (rw [hb15]; conv => lhs; whnf)
        try (rw [hb15]; conv => lhs; whnf)
        try (rw [hb15]; conv => lhs; whnf)
        try (rw [hb15]; conv => lhs; whnf)
        cases hb16 : (decide (x12.Seq > v10.Seq))
        · replace h := ifF h (decF hb16)
          conv => lhs; whnf
          rw [wrap_nat i9 (by have := hn_i9; omega)]
          exact hnx11 _ _ _ _ (fun kk => by kernel_rfl) h
        · replace h := ifT h (decT hb16)
          conv => lhs; whnf
          try (rw [decide_eq_true hq_x12]; conv => lhs; whnf)
          rw [hx_x12]
          conv => lhs; whnf
          rw [hx_x12]
          conv => lhs; whnf
          rw [wrap_nat i9 (by have := hn_i9; omega)]
          exact hnx11 _ _ _ _ (fun kk => by kernel_rfl) h
  · clear h
    rintro next_nx11 v10 r h
    try dsimp only at h
    have hd_i9 : (decide ((a_0.length : Int) < (a_0.length : Int))) = false := decide_eq_false (by omega)
    conv => lhs; whnf
    try rw [len_of (l := a_0) (r := rRecord)]
    rw [hd_i9]
    conv => lhs; whnf
    obtain rfl := Option.some.inj h
    show _ = _
    kernel_rfl

noncomputable def p_spec_l24Get (a_0 : List Record) (a_1 : ByteArray) (a_2 : Int) : Option (ByteArray × Bool) :=
  callK (p_spec_l17Newest a_0 a_1 a_2) fun y1 =>
  if y1.2 = true then
    if ¬ y1.1.Kind = 1 then
      some ((⟨#[]⟩ : ByteArray), false)
    else
      some (y1.1.Value, true)
  else
    some ((⟨#[]⟩ : ByteArray), false)

set_option maxHeartbeats 4000000 in
theorem L_spec_l24Get (a_0 : List Record) (a_1 : ByteArray) (a_2 : Int) {r : (ByteArray × Bool)} (h : p_spec_l24Get a_0 a_1 a_2 = some r) : callL E 174 [.d (.arr (a_0.map rRecord)), ST a_1, IN a_2] ([] : Fo) = some (.tup [ST r.1, BO r.2], ([] : Fo)) := by
  unfold p_spec_l24Get at h
  refine callW (fu := Try.f174) rfl rfl rfl NN ?_
  intro lp cl hlp hcl
  conv => lhs; whnf
  obtain ⟨y1, h_y1, h⟩ := callK_inv h
  rw [cl_eq hcl (L_spec_l17Newest a_0 a_1 a_2 h_y1)]
  rotate_left
  · show _ = _
    kernel_rfl
  · show _ = _
    kernel_rfl
  conv => lhs; whnf
  cases hb2 : y1.2
  · replace h := ifF h (booF hb2)
    conv => lhs; whnf
    try (rw [hb2]; conv => lhs; whnf)
    try (rw [hb2]; conv => lhs; whnf)
    try (rw [hb2]; conv => lhs; whnf)
    obtain rfl := Option.some.inj h
    show _ = _
    kernel_rfl
  · replace h := ifT h hb2
    conv => lhs; whnf
    try (rw [hb2]; conv => lhs; whnf)
    try (rw [hb2]; conv => lhs; whnf)
    try (rw [hb2]; conv => lhs; whnf)
    cases hb3 : (y1.1.Kind != 1)
    · replace h := ifF h ((fun h => not_not_intro (bneF h)) hb3)
      conv => lhs; whnf
      obtain rfl := Option.some.inj h
      show _ = _
      kernel_rfl
    · replace h := ifT h (bneT hb3)
      conv => lhs; whnf
      obtain rfl := Option.some.inj h
      show _ = _
      kernel_rfl

noncomputable def p_spec_l24Visible (a_0 : List Record) (a_1 : ByteArray) (a_2 : ByteArray) (a_3 : Int) : Option (List Pair) :=
  grd (a_0.length < 4611686018427387904) <|
  forK a_0 (fun (i14 : Nat) x18 ((v15, v16) : (ByteArray × (List Pair))) (nx17 : (ByteArray × (List Pair)) → Option _) =>
    if (x18.Key.toList == v15.toList) = true then
      nx17 (v15, v16)
    else
      if (Op.bytesLess x18.Key.toList a_1.toList) = true then
        nx17 (v15, v16)
      else
        if (a_2.toList == (⟨#[]⟩ : ByteArray).toList) = true then
          callK (p_spec_l24Get a_0 x18.Key a_3) fun y22 =>
          if y22.2 = true then
            grd (appOk (v16.length + 1) 32 = true) <|
            nx17 (x18.Key, (v16 ++ ([(⟨x18.Key, y22.1⟩ : Pair)] : List Pair)))
          else
            nx17 (x18.Key, v16)
        else
          if (Op.bytesLess x18.Key.toList a_2.toList) = true then
            callK (p_spec_l24Get a_0 x18.Key a_3) fun y25 =>
            if y25.2 = true then
              grd (appOk (v16.length + 1) 32 = true) <|
              nx17 (x18.Key, (v16 ++ ([(⟨x18.Key, y25.1⟩ : Pair)] : List Pair)))
            else
              nx17 (x18.Key, v16)
          else
            nx17 (v15, v16)) ((⟨#[]⟩ : ByteArray), ([] : List Pair)) (fun ((v15, v16) : (ByteArray × (List Pair))) =>
    some v16)

set_option maxHeartbeats 4000000 in
theorem L_spec_l24Visible (a_0 : List Record) (a_1 : ByteArray) (a_2 : ByteArray) (a_3 : Int) {r : (List Pair)} (h : p_spec_l24Visible a_0 a_1 a_2 a_3 = some r) : callL E 89 [.d (.arr (a_0.map rRecord)), ST a_1, ST a_2, IN a_3] ([] : Fo) = some (.d (.arr (r.map rPair)), ([] : Fo)) := by
  unfold p_spec_l24Visible at h
  refine callW (fu := Try.f89) rfl rfl rfl NN ?_
  intro lp cl hlp hcl
  conv => lhs; whnf
  obtain ⟨hl_i14, h⟩ := grd_inv h
  refine loop_for hlp (l := a_0) hl_i14 (fun (i14 : Nat) ((v15, v16) : (ByteArray × (List Pair))) => ([.d (.arr (a_0.map rRecord)), ST a_1, ST a_2, IN a_3, .dead, .dead, .dead, .dead, .dead, .sl 0, ST v15, IN (i14 : Int)] ++ List.replicate 48 .dead : List V)) (fun (i14 : Nat) ((v15, v16) : (ByteArray × (List Pair))) => ([some (.arr 70 2 (v16.map rPair))] : Fo)) (fun (r : (List Pair)) => ((.d (.arr (r.map rPair)) : V), ([] : Fo))) ?_ ?_ ((⟨#[]⟩ : ByteArray), ([] : List Pair)) _ (fun kk => by kernel_rfl) h
  · clear h
    rintro next_nx17 nx17 i14 hi_i14 hnx17 ⟨v15, v16⟩ r h
    try dsimp only at h
    have hn_i14 : i14 < 4611686018427387904 := by omega
    have hx_x18 := get_map rRecord a_0 i14 hi_i14
    generalize a_0[i14] = x18 at h hx_x18
    have hd_i14 : (decide ((i14 : Int) < (a_0.length : Int))) = true := decide_eq_true (by omega)
    conv => lhs; whnf
    try rw [len_of (l := a_0) (r := rRecord)]
    rw [hd_i14]
    conv => lhs; whnf
    try (rw [decide_eq_true hq_x18]; conv => lhs; whnf)
    rw [hx_x18]
    conv => lhs; whnf
    rw [hx_x18]
    conv => lhs; whnf
    cases hb19 : (x18.Key.toList == v15.toList)
    · replace h := ifF h (booF hb19)
      conv => lhs; whnf
      try (rw [hb19]; conv => lhs; whnf)
      try (rw [hb19]; conv => lhs; whnf)
      try (rw [hb19]; conv => lhs; whnf)
      cases hb20 : (Op.bytesLess x18.Key.toList a_1.toList)
      · replace h := ifF h (booF hb20)
        conv => lhs; whnf
        try (rw [hb20]; conv => lhs; whnf)
        try (rw [hb20]; conv => lhs; whnf)
        cases hb21 : (a_2.toList == (⟨#[]⟩ : ByteArray).toList)
        · replace h := ifF h (booF hb21)
          conv => lhs; whnf
          try (rw [hb21]; conv => lhs; whnf)
          try (rw [hb21]; conv => lhs; whnf)
          try (rw [hb20]; conv => lhs; whnf)
          try (rw [hb21]; conv => lhs; whnf)
          try (rw [hb20]; conv => lhs; whnf)
          cases hb24 : (Op.bytesLess x18.Key.toList a_2.toList)
          · replace h := ifF h (booF hb24)
            conv => lhs; whnf
            rw [wrap_nat i14 (by have := hn_i14; omega)]
            exact hnx17 _ _ _ _ (fun kk => by kernel_rfl) h
          · replace h := ifT h hb24
            conv => lhs; whnf
            obtain ⟨y25, h_y25, h⟩ := callK_inv h
            rw [cl_eq hcl (L_spec_l24Get a_0 x18.Key a_3 h_y25)]
            rotate_left
            · show _ = _
              kernel_rfl
            · show _ = _
              kernel_rfl
            conv => lhs; whnf
            cases hb26 : y25.2
            · replace h := ifF h (booF hb26)
              conv => lhs; whnf
              rw [wrap_nat i14 (by have := hn_i14; omega)]
              exact hnx17 _ _ _ _ (fun kk => by kernel_rfl) h
            · replace h := ifT h hb26
              conv => lhs; whnf
              obtain ⟨hg27, h⟩ := grd_inv h
              rw [app_eq hg27 ?h1 ?h2]
              case h1 => first | exact rfl | (simp only [List.length_map, List.length_cons, List.length_nil]; done) | (rw [List.length_map]; rfl)
              case h2 => exact rfl
              conv => lhs; whnf
              first | (rw [map_app_of (r := rPair) (l := v16) (m := ([(⟨x18.Key, y25.1⟩ : Pair)] : List Pair)) ?hh]; case hh => exact rfl) | skip
              rw [wrap_nat i14 (by have := hn_i14; omega)]
              exact hnx17 _ _ _ _ (fun kk => by kernel_rfl) h
        · replace h := ifT h hb21
          conv => lhs; whnf
          try (rw [hb21]; conv => lhs; whnf)
          try (rw [hb21]; conv => lhs; whnf)
          try (rw [hb20]; conv => lhs; whnf)
          try (rw [hb21]; conv => lhs; whnf)
          try (rw [hb20]; conv => lhs; whnf)
          obtain ⟨y22, h_y22, h⟩ := callK_inv h
          rw [cl_eq hcl (L_spec_l24Get a_0 x18.Key a_3 h_y22)]
          rotate_left
          · show _ = _
            kernel_rfl
          · show _ = _
            kernel_rfl
          conv => lhs; whnf
          cases hb23 : y22.2
          · replace h := ifF h (booF hb23)
            conv => lhs; whnf
            rw [wrap_nat i14 (by have := hn_i14; omega)]
            exact hnx17 _ _ _ _ (fun kk => by kernel_rfl) h
          · replace h := ifT h hb23
            conv => lhs; whnf
            obtain ⟨hg28, h⟩ := grd_inv h
            rw [app_eq hg28 ?h1 ?h2]
            case h1 => first | exact rfl | (simp only [List.length_map, List.length_cons, List.length_nil]; done) | (rw [List.length_map]; rfl)
            case h2 => exact rfl
            conv => lhs; whnf
            first | (rw [map_app_of (r := rPair) (l := v16) (m := ([(⟨x18.Key, y22.1⟩ : Pair)] : List Pair)) ?hh]; case hh => exact rfl) | skip
            rw [wrap_nat i14 (by have := hn_i14; omega)]
            exact hnx17 _ _ _ _ (fun kk => by kernel_rfl) h
      · replace h := ifT h hb20
        conv => lhs; whnf
        try (rw [hb20]; conv => lhs; whnf)
        try (rw [hb20]; conv => lhs; whnf)
        try (rw [hb20]; conv => lhs; whnf)
        try (rw [hb20]; conv => lhs; whnf)
        rw [wrap_nat i14 (by have := hn_i14; omega)]
        exact hnx17 _ _ _ _ (fun kk => by kernel_rfl) h
    · replace h := ifT h hb19
      conv => lhs; whnf
      try (rw [hb19]; conv => lhs; whnf)
      try (rw [hb19]; conv => lhs; whnf)
      try (rw [hb19]; conv => lhs; whnf)
      rw [wrap_nat i14 (by have := hn_i14; omega)]
      exact hnx17 _ _ _ _ (fun kk => by kernel_rfl) h
  · clear h
    rintro next_nx17 ⟨v15, v16⟩ r h
    try dsimp only at h
    have hd_i14 : (decide ((a_0.length : Int) < (a_0.length : Int))) = false := decide_eq_false (by omega)
    conv => lhs; whnf
    try rw [len_of (l := a_0) (r := rRecord)]
    rw [hd_i14]
    conv => lhs; whnf
    obtain rfl := Option.some.inj h
    show _ = _
    kernel_rfl

noncomputable def p_spec_VisibleAt (a_0 : List Record) (a_1 : Int) : Option (List Pair) :=
  callK (p_spec_l17Run a_0) fun y1 =>
  if y1 = true then
    callK (p_spec_l24Visible a_0 (⟨#[]⟩ : ByteArray) (⟨#[]⟩ : ByteArray) a_1) fun y3 =>
    some y3
  else
    some ([] : List Pair)

set_option maxHeartbeats 4000000 in
theorem L_spec_VisibleAt (a_0 : List Record) (a_1 : Int) {r : (List Pair)} (h : p_spec_VisibleAt a_0 a_1 = some r) : callL E 21 [.d (.arr (a_0.map rRecord)), IN a_1] ([] : Fo) = some (.d (.arr (r.map rPair)), ([] : Fo)) := by
  unfold p_spec_VisibleAt at h
  refine callW (fu := Try.f21) rfl rfl rfl NN ?_
  intro lp cl hlp hcl
  conv => lhs; whnf
  obtain ⟨y1, h_y1, h⟩ := callK_inv h
  rw [cl_eq hcl (L_spec_l17Run a_0 h_y1)]
  rotate_left
  · show _ = _
    kernel_rfl
  · show _ = _
    kernel_rfl
  conv => lhs; whnf
  cases hb2 : y1
  · replace h := ifF h (booF hb2)
    conv => lhs; whnf
    obtain rfl := Option.some.inj h
    show _ = _
    kernel_rfl
  · replace h := ifT h hb2
    conv => lhs; whnf
    obtain ⟨y3, h_y3, h⟩ := callK_inv h
    rw [cl_eq hcl (L_spec_l24Visible a_0 (⟨#[]⟩ : ByteArray) (⟨#[]⟩ : ByteArray) a_1 h_y3)]
    rotate_left
    · show _ = _
      kernel_rfl
    · show _ = _
      kernel_rfl
    conv => lhs; whnf
    obtain rfl := Option.some.inj h
    show _ = _
    kernel_rfl

noncomputable def p_spec_SamePairs (a_0 : List Pair) (a_1 : List Pair) : Option Bool :=
  if ¬ (a_0.length : Int) = (a_1.length : Int) then
    some false
  else
    grd (a_0.length < 4611686018427387904) <|
    forK a_0 (fun (i7 : Nat) x9 (_ : Unit) (nx8 : Unit → Option _) =>
      getK a_1 (i7 : Int) fun x10 =>
      if ((x9.Key.toList == x10.Key.toList) && ((x9.Value.toList == x10.Value.toList) && true)) = true then
        nx8 ()
      else
        some false) () (fun (_ : Unit) =>
      some true)

set_option maxHeartbeats 4000000 in
theorem L_spec_SamePairs (a_0 : List Pair) (a_1 : List Pair) {r : Bool} (h : p_spec_SamePairs a_0 a_1 = some r) : callL E 22 [.d (.arr (a_0.map rPair)), .d (.arr (a_1.map rPair))] ([] : Fo) = some (BO r, ([] : Fo)) := by
  unfold p_spec_SamePairs at h
  refine callW (fu := Try.f22) rfl rfl rfl NN ?_
  intro lp cl hlp hcl
  conv => lhs; whnf
  try rw [len_of (l := a_0) (r := rPair)]
  try rw [len_of (l := a_1) (r := rPair)]
  cases hb1 : ((a_0.length : Int) != (a_1.length : Int))
  · replace h := ifF h ((fun h => not_not_intro (bneF h)) hb1)
    conv => lhs; whnf
    obtain ⟨hl_i7, h⟩ := grd_inv h
    refine loop_for hlp (l := a_0) hl_i7 (fun (i7 : Nat) (_ : Unit) => ([.d (.arr (a_0.map rPair)), .d (.arr (a_1.map rPair)), .dead, .dead, .dead, IN (i7 : Int)] ++ List.replicate 20 .dead : List V)) (fun (i7 : Nat) (_ : Unit) => ([] : Fo)) (fun (r : Bool) => ((BO r : V), ([] : Fo))) ?_ ?_ () _ (fun kk => by kernel_rfl) h
    · clear h
      rintro next_nx8 nx8 i7 hi_i7 hnx8 ⟨⟩ r h
      try dsimp only at h
      have hn_i7 : i7 < 4611686018427387904 := by omega
      have hx_x9 := get_map rPair a_0 i7 hi_i7
      generalize a_0[i7] = x9 at h hx_x9
      have hd_i7 : (decide ((i7 : Int) < (a_0.length : Int))) = true := decide_eq_true (by omega)
      conv => lhs; whnf
      try rw [len_of (l := a_0) (r := rPair)]
      rw [hd_i7]
      conv => lhs; whnf
      try (rw [decide_eq_true hq_x9]; conv => lhs; whnf)
      rw [hx_x9]
      conv => lhs; whnf
      rw [hx_x9]
      conv => lhs; whnf
      obtain ⟨x10, hq_x10, hx_x10', h⟩ := getK_inv h
      have hx_x10 := get_of (r := rPair) hx_x10'
      try (rw [decide_eq_true hq_x10]; conv => lhs; whnf)
      rw [hx_x10]
      conv => lhs; whnf
      rw [hx_x10]
      conv => lhs; whnf
      cases hb11 : ((x9.Key.toList == x10.Key.toList) && ((x9.Value.toList == x10.Value.toList) && true))
      · replace h := ifF h (booF hb11)
        conv => lhs; whnf
        obtain rfl := Option.some.inj h
        show _ = _
        kernel_rfl
      · replace h := ifT h hb11
        conv => lhs; whnf
        rw [wrap_nat i7 (by have := hn_i7; omega)]
        exact hnx8 _ _ _ _ (fun kk => by kernel_rfl) h
    · clear h
      rintro next_nx8 ⟨⟩ r h
      try dsimp only at h
      have hd_i7 : (decide ((a_0.length : Int) < (a_0.length : Int))) = false := decide_eq_false (by omega)
      conv => lhs; whnf
      try rw [len_of (l := a_0) (r := rPair)]
      rw [hd_i7]
      conv => lhs; whnf
      obtain rfl := Option.some.inj h
      show _ = _
      kernel_rfl
  · replace h := ifT h (bneT hb1)
    conv => lhs; whnf
    obtain rfl := Option.some.inj h
    show _ = _
    kernel_rfl

noncomputable def p_laws_FnDropHidden (a_0 : List Int) : Option Bool :=
  if (a_0.length : Int) > 400 then
    some true
  else
    callK (p_spec_A8Run a_0 14) fun y2 =>
    callK (p_laws_a8Mix a_0 9) fun y3 =>
    callK (p_spec_A8Snapshots y3) fun y4 =>
    callK (p_laws_a8At a_0 18 12) fun y5 =>
    grd (y2.length < 4611686018427387904) <|
    forK y2 (fun (i12 : Nat) x16 ((v13, v14) : ((List Record) × (List Record))) (nx15 : ((List Record) × (List Record)) → Option _) =>
      if x16.Seq > y5 then
        grd (appOk (v14.length + 1) 64 = true) <|
        nx15 (v13, (v14 ++ ([x16] : List Record)))
      else
        grd (appOk (v13.length + 1) 64 = true) <|
        nx15 ((v13 ++ ([x16] : List Record)), v14)) (([] : List Record), ([] : List Record)) (fun ((v13, v14) : ((List Record) × (List Record))) =>
      callK (p_impl_DropHidden v14 y4 false) fun y18 =>
      callK (p_spec_MergeRecords ([y18, v13] : List (List Record))) fun y19 =>
      callK (p_impl_DropHidden y2 y4 true) fun y20 =>
      callK (p_impl_ValidRun y18) fun y21 =>
      if y21 = true then
        callK (p_impl_ValidRun y20) fun y23 =>
        if y23 = true then
          if ¬ (y19.length : Int) = (IntKind.i64.wrap ((y18.length : Int) + (v13.length : Int))) then
            some false
          else
            grd (appOk (1 + y4.length) 8 = true) <|
            grd ((([1000000] : List Int) ++ y4).length < 4611686018427387904) <|
            forK (([1000000] : List Int) ++ y4) (fun (i36 : Nat) x38 (_ : Unit) (nx37 : Unit → Option _) =>
              callK (p_spec_VisibleAt y2 x38) fun y39 =>
              callK (p_spec_VisibleAt y19 x38) fun y40 =>
              callK (p_spec_SamePairs y40 y39) fun y41 =>
              if y41 = true then
                callK (p_spec_VisibleAt y20 x38) fun y43 =>
                callK (p_spec_SamePairs y43 y39) fun y44 =>
                if y44 = true then
                  nx37 ()
                else
                  some false
              else
                some false) () (fun (_ : Unit) =>
              some true)
        else
          some false
      else
        some false)

set_option maxHeartbeats 4000000 in
theorem L_laws_FnDropHidden (a_0 : List Int) {r : Bool} (h : p_laws_FnDropHidden a_0 = some r) : callL E 3 [.d (.arr (a_0.map rU))] ([] : Fo) = some (BO r, ([] : Fo)) := by
  unfold p_laws_FnDropHidden at h
  refine callW (fu := Try.f3) rfl rfl rfl NN ?_
  intro lp cl hlp hcl
  conv => lhs; whnf
  try rw [len_of (l := a_0) (r := rU)]
  cases hb1 : (decide ((a_0.length : Int) > 400))
  · replace h := ifF h (decF hb1)
    conv => lhs; whnf
    obtain ⟨y2, h_y2, h⟩ := callK_inv h
    rw [cl_eq hcl (L_spec_A8Run a_0 14 h_y2)]
    rotate_left
    · show _ = _
      kernel_rfl
    · show _ = _
      kernel_rfl
    conv => lhs; whnf
    obtain ⟨y3, h_y3, h⟩ := callK_inv h
    rw [cl_eq hcl (L_laws_a8Mix a_0 9 h_y3)]
    rotate_left
    · show _ = _
      kernel_rfl
    · show _ = _
      kernel_rfl
    conv => lhs; whnf
    obtain ⟨y4, h_y4, h⟩ := callK_inv h
    rw [cl_eq hcl (L_spec_A8Snapshots y3 h_y4)]
    rotate_left
    · show _ = _
      kernel_rfl
    · show _ = _
      kernel_rfl
    conv => lhs; whnf
    obtain ⟨y5, h_y5, h⟩ := callK_inv h
    rw [cl_eq hcl (L_laws_a8At a_0 18 12 h_y5)]
    rotate_left
    · show _ = _
      kernel_rfl
    · show _ = _
      kernel_rfl
    conv => lhs; whnf
    obtain ⟨hl_i12, h⟩ := grd_inv h
    refine loop_for hlp (l := y2) hl_i12 (fun (i12 : Nat) ((v13, v14) : ((List Record) × (List Record))) => ([.dead, .dead, .dead, .d (.arr (y2.map rRecord)), .d (.arr (y4.map rI)), IN y5, .sl 0, .sl 1, IN (i12 : Int)] ++ List.replicate 108 .dead : List V)) (fun (i12 : Nat) ((v13, v14) : ((List Record) × (List Record))) => ([some (.arr 30 5 (v13.map rRecord)), some (.arr 30 5 (v14.map rRecord))] : Fo)) (fun (r : Bool) => ((BO r : V), ([] : Fo))) ?_ ?_ (([] : List Record), ([] : List Record)) _ (fun kk => by kernel_rfl) h
    · clear h
      rintro next_nx15 nx15 i12 hi_i12 hnx15 ⟨v13, v14⟩ r h
      try dsimp only at h
      have hn_i12 : i12 < 4611686018427387904 := by omega
      have hx_x16 := get_map rRecord y2 i12 hi_i12
      generalize y2[i12] = x16 at h hx_x16
      have hd_i12 : (decide ((i12 : Int) < (y2.length : Int))) = true := decide_eq_true (by omega)
      conv => lhs; whnf
      try rw [len_of (l := y2) (r := rRecord)]
      rw [hd_i12]
      conv => lhs; whnf
      try (rw [decide_eq_true hq_x16]; conv => lhs; whnf)
      rw [hx_x16]
      conv => lhs; whnf
      rw [hx_x16]
      conv => lhs; whnf
      cases hb17 : (decide (x16.Seq > y5))
      · replace h := ifF h (decF hb17)
        conv => lhs; whnf
        try (rw [decide_eq_true hq_x16]; conv => lhs; whnf)
        rw [hx_x16]
        conv => lhs; whnf
        rw [hx_x16]
        conv => lhs; whnf
        obtain ⟨hg46, h⟩ := grd_inv h
        rw [app_eq hg46 ?h1 ?h2]
        case h1 => first | exact rfl | (simp only [List.length_map, List.length_cons, List.length_nil]; done) | (rw [List.length_map]; rfl)
        case h2 => exact rfl
        conv => lhs; whnf
        first | (rw [map_app_of (r := rRecord) (l := v13) (m := ([x16] : List Record)) ?hh]; case hh => exact rfl) | skip
        rw [wrap_nat i12 (by have := hn_i12; omega)]
        exact hnx15 _ _ _ _ (fun kk => by kernel_rfl) h
      · replace h := ifT h (decT hb17)
        conv => lhs; whnf
        try (rw [decide_eq_true hq_x16]; conv => lhs; whnf)
        rw [hx_x16]
        conv => lhs; whnf
        rw [hx_x16]
        conv => lhs; whnf
        obtain ⟨hg47, h⟩ := grd_inv h
        rw [app_eq hg47 ?h1 ?h2]
        case h1 => first | exact rfl | (simp only [List.length_map, List.length_cons, List.length_nil]; done) | (rw [List.length_map]; rfl)
        case h2 => exact rfl
        conv => lhs; whnf
        first | (rw [map_app_of (r := rRecord) (l := v14) (m := ([x16] : List Record)) ?hh]; case hh => exact rfl) | skip
        rw [wrap_nat i12 (by have := hn_i12; omega)]
        exact hnx15 _ _ _ _ (fun kk => by kernel_rfl) h
    · clear h
      rintro next_nx15 ⟨v13, v14⟩ r h
      try dsimp only at h
      have hd_i12 : (decide ((y2.length : Int) < (y2.length : Int))) = false := decide_eq_false (by omega)
      conv => lhs; whnf
      try rw [len_of (l := y2) (r := rRecord)]
      rw [hd_i12]
      conv => lhs; whnf
      obtain ⟨y18, h_y18, h⟩ := callK_inv h
      rw [cl_eq hcl (L_impl_DropHidden v14 y4 false h_y18)]
      rotate_left
      · show _ = _
        kernel_rfl
      · show _ = _
        kernel_rfl
      conv => lhs; whnf
      obtain ⟨y19, h_y19, h⟩ := callK_inv h
      rw [cl_eq hcl (L_spec_MergeRecords ([y18, v13] : List (List Record)) h_y19)]
      rotate_left
      · show _ = _
        kernel_rfl
      · show _ = _
        kernel_rfl
      conv => lhs; whnf
      obtain ⟨y20, h_y20, h⟩ := callK_inv h
      rw [cl_eq hcl (L_impl_DropHidden y2 y4 true h_y20)]
      rotate_left
      · show _ = _
        kernel_rfl
      · show _ = _
        kernel_rfl
      conv => lhs; whnf
      obtain ⟨y21, h_y21, h⟩ := callK_inv h
      rw [cl_eq hcl (L_impl_ValidRun y18 h_y21)]
      rotate_left
      · show _ = _
        kernel_rfl
      · show _ = _
        kernel_rfl
      conv => lhs; whnf
      cases hb22 : y21
      · replace h := ifF h (booF hb22)
        conv => lhs; whnf
        try (rw [hb22]; conv => lhs; whnf)
        try (rw [hb22]; conv => lhs; whnf)
        try (rw [hb22]; conv => lhs; whnf)
        obtain rfl := Option.some.inj h
        show _ = _
        kernel_rfl
      · replace h := ifT h hb22
        conv => lhs; whnf
        try (rw [hb22]; conv => lhs; whnf)
        obtain ⟨y23, h_y23, h⟩ := callK_inv h
        rw [cl_eq hcl (L_impl_ValidRun y20 h_y23)]
        rotate_left
        · show _ = _
          kernel_rfl
        · show _ = _
          kernel_rfl
        conv => lhs; whnf
        try (rw [hb22]; conv => lhs; whnf)
        try (rw [hb22]; conv => lhs; whnf)
        cases hb24 : y23
        · replace h := ifF h (booF hb24)
          conv => lhs; whnf
          try (rw [hb24]; conv => lhs; whnf)
          try (rw [hb24]; conv => lhs; whnf)
          try (rw [hb24]; conv => lhs; whnf)
          try (rw [hb24]; conv => lhs; whnf)
          try (rw [hb24]; conv => lhs; whnf)
          try (rw [hb24]; conv => lhs; whnf)
          try (rw [hb24]; conv => lhs; whnf)
          try (rw [hb24]; conv => lhs; whnf)
          obtain rfl := Option.some.inj h
          show _ = _
          kernel_rfl
        · replace h := ifT h hb24
          conv => lhs; whnf
          try (rw [hb24]; conv => lhs; whnf)
          try rw [len_of (l := y19) (r := rRecord)]
          try (rw [hb24]; conv => lhs; whnf)
          try (rw [hb24]; conv => lhs; whnf)
          try rw [len_of (l := y18) (r := rRecord)]
          try (rw [hb24]; conv => lhs; whnf)
          try (rw [hb24]; conv => lhs; whnf)
          try rw [len_of (l := v13) (r := rRecord)]
          try (rw [hb24]; conv => lhs; whnf)
          try (rw [hb24]; conv => lhs; whnf)
          try (rw [hb24]; conv => lhs; whnf)
          cases hb25 : ((y19.length : Int) != (IntKind.i64.wrap ((y18.length : Int) + (v13.length : Int))))
          · replace h := ifF h ((fun h => not_not_intro (bneF h)) hb25)
            conv => lhs; whnf
            obtain ⟨hg48, h⟩ := grd_inv h
            rw [app_eq hg48 ?h1 ?h2]
            case h1 => first | exact rfl | (simp only [List.length_map, List.length_cons, List.length_nil]; done) | (rw [List.length_map]; rfl)
            case h2 => exact rfl
            conv => lhs; whnf
            rw [allLen_map rI _ rI_len]
            conv => lhs; whnf
            first | (rw [map_app_of (r := rI) (l := ([1000000] : List Int)) (m := y4) ?hh]; case hh => exact rfl) | skip
            obtain ⟨hl_i36, h⟩ := grd_inv h
            refine loop_for hlp (l := (([1000000] : List Int) ++ y4)) hl_i36 (fun (i36 : Nat) (_ : Unit) => ([.dead, .dead, .dead, .d (.arr (y2.map rRecord)), .dead, .dead, .dead, .dead, .dead, .dead, .d (.arr (y19.map rRecord)), .d (.arr (y20.map rRecord)), .sl 0, IN (i36 : Int)] ++ List.replicate 103 .dead : List V)) (fun (i36 : Nat) (_ : Unit) => ([some (.arr 2 1 ((([1000000] : List Int) ++ y4).map rI))] : Fo)) (fun (r : Bool) => ((BO r : V), ([] : Fo))) ?_ ?_ () _ (fun kk => by kernel_rfl) h
            · clear h
              rintro next_nx37 nx37 i36 hi_i36 hnx37 ⟨⟩ r h
              try dsimp only at h
              have hn_i36 : i36 < 4611686018427387904 := by omega
              have hx_x38 := get_map rI (([1000000] : List Int) ++ y4) i36 hi_i36
              generalize (([1000000] : List Int) ++ y4)[i36] = x38 at h hx_x38
              have hd_i36 : (decide ((i36 : Int) < ((([1000000] : List Int) ++ y4).length : Int))) = true := decide_eq_true (by omega)
              conv => lhs; whnf
              try rw [len_of (l := (([1000000] : List Int) ++ y4)) (r := rI)]
              rw [hd_i36]
              conv => lhs; whnf
              try (rw [decide_eq_true hq_x38]; conv => lhs; whnf)
              rw [hx_x38]
              conv => lhs; whnf
              rw [hx_x38]
              conv => lhs; whnf
              obtain ⟨y39, h_y39, h⟩ := callK_inv h
              rw [cl_eq hcl (L_spec_VisibleAt y2 x38 h_y39)]
              rotate_left
              · show _ = _
                kernel_rfl
              · show _ = _
                kernel_rfl
              conv => lhs; whnf
              try (rw [decide_eq_true hq_x38]; conv => lhs; whnf)
              rw [hx_x38]
              conv => lhs; whnf
              rw [hx_x38]
              conv => lhs; whnf
              obtain ⟨y40, h_y40, h⟩ := callK_inv h
              rw [cl_eq hcl (L_spec_VisibleAt y19 x38 h_y40)]
              rotate_left
              · show _ = _
                kernel_rfl
              · show _ = _
                kernel_rfl
              conv => lhs; whnf
              obtain ⟨y41, h_y41, h⟩ := callK_inv h
              rw [cl_eq hcl (L_spec_SamePairs y40 y39 h_y41)]
              rotate_left
              · show _ = _
                kernel_rfl
              · show _ = _
                kernel_rfl
              conv => lhs; whnf
              cases hb42 : y41
              · replace h := ifF h (booF hb42)
                conv => lhs; whnf
                try (rw [hb42]; conv => lhs; whnf)
                try (rw [hb42]; conv => lhs; whnf)
                try (rw [hb42]; conv => lhs; whnf)
                try (rw [hb42]; conv => lhs; whnf)
                try (rw [hb42]; conv => lhs; whnf)
                try (rw [hb42]; conv => lhs; whnf)
                try (rw [hb42]; conv => lhs; whnf)
                try (rw [hb42]; conv => lhs; whnf)
                try (rw [hb42]; conv => lhs; whnf)
                obtain rfl := Option.some.inj h
                show _ = _
                kernel_rfl
              · replace h := ifT h hb42
                conv => lhs; whnf
                try (rw [hb42]; conv => lhs; whnf)
                try (rw [hb42]; conv => lhs; whnf)
                try (rw [hb42]; conv => lhs; whnf)
                try (rw [decide_eq_true hq_x38]; conv => lhs; whnf)
                rw [hx_x38]
                conv => lhs; whnf
                try (rw [hb42]; conv => lhs; whnf)
                rw [hx_x38]
                conv => lhs; whnf
                try (rw [hb42]; conv => lhs; whnf)
                obtain ⟨y43, h_y43, h⟩ := callK_inv h
                rw [cl_eq hcl (L_spec_VisibleAt y20 x38 h_y43)]
                rotate_left
                · show _ = _
                  kernel_rfl
                · show _ = _
                  kernel_rfl
                conv => lhs; whnf
                try (rw [hb42]; conv => lhs; whnf)
                try (rw [hb42]; conv => lhs; whnf)
                obtain ⟨y44, h_y44, h⟩ := callK_inv h
                rw [cl_eq hcl (L_spec_SamePairs y43 y39 h_y44)]
                rotate_left
                · show _ = _
                  kernel_rfl
                · show _ = _
                  kernel_rfl
                conv => lhs; whnf
                try (rw [hb42]; conv => lhs; whnf)
                try (rw [hb42]; conv => lhs; whnf)
                cases hb45 : y44
                · replace h := ifF h (booF hb45)
                  conv => lhs; whnf
                  obtain rfl := Option.some.inj h
                  show _ = _
                  kernel_rfl
                · replace h := ifT h hb45
                  conv => lhs; whnf
                  rw [wrap_nat i36 (by have := hn_i36; omega)]
                  exact hnx37 _ _ _ _ (fun kk => by kernel_rfl) h
            · clear h
              rintro next_nx37 ⟨⟩ r h
              try dsimp only at h
              have hd_i36 : (decide (((([1000000] : List Int) ++ y4).length : Int) < ((([1000000] : List Int) ++ y4).length : Int))) = false := decide_eq_false (by omega)
              conv => lhs; whnf
              try rw [len_of (l := (([1000000] : List Int) ++ y4)) (r := rI)]
              rw [hd_i36]
              conv => lhs; whnf
              obtain rfl := Option.some.inj h
              show _ = _
              kernel_rfl
          · replace h := ifT h (bneT hb25)
            conv => lhs; whnf
            obtain rfl := Option.some.inj h
            show _ = _
            kernel_rfl
  · replace h := ifT h (decT hb1)
    conv => lhs; whnf
    obtain rfl := Option.some.inj h
    show _ = _
    kernel_rfl
/-- slices.DeleteFunc, as it is printed for a condition f; z is the element that fills the end. -/
noncomputable def delF {α : Type} (z : α) (f : α → Option Bool) (a_0 : List α) : Option (List α) :=
  callK (grd (a_0.length < 4611686018427387904) <| forK a_0 (fun (i6 : Nat) x8 (_ : Unit) (nx7 : Unit → Option _) => callK (f x8) fun y9 => if y9 = true then some (i6 : Int) else nx7 ()) () (fun (_ : Unit) => some (-1))) fun y1 =>
  if y1 = (-1) then
    some a_0
  else
    iterK (fun ((v3, v4, v5) : (Int × Int × (List α))) (nx6 : (Int × Int × (List α)) → Option _) =>
      if v4 < (v5.length : Int) then
        getK v5 v4 fun x8 =>
        callK (f x8) fun y9 =>
        if y9 = true then
          nx6 (v3, (IntKind.i64.wrap (v4 + 1)), v5)
        else
          getK v5 v3 fun x11 =>
          nx6 ((IntKind.i64.wrap (v3 + 1)), (IntKind.i64.wrap (v4 + 1)), (v5.set (Int.toNat v3) x8))
      else
        grd (0 ≤ v3 ∧ v3 < (v5.length : Int)) <|
        grd (0 ≤ v3 ∧ v3 ≤ ((v5.take (Int.toNat v3) ++ List.replicate (v5.length - (Int.toNat v3)) z).length : Int)) <|
        some ((v5.take (Int.toNat v3) ++ List.replicate (v5.length - (Int.toNat v3)) z).take (Int.toNat v3))) NN (y1, (IntKind.i64.wrap (y1 + 1)), a_0)
theorem forGo_congr {α σ R : Type} {f g : Nat → α → σ → (σ → Option R) → Option R} {k : σ → Option R} : ∀ (l : List α) (i : Nat) (s : σ), (∀ x ∈ l, ∀ i s nx, f i x s nx = g i x s nx) → forGo f k i l s = forGo g k i l s
  | [], i, s, h => rfl
  | x :: l, i, s, h => by
    rw [forGo_cons, forGo_cons, h x (by simp), show forGo f k (i + 1) l = forGo g k (i + 1) l from funext fun s => forGo_congr l (i + 1) s fun y hy => h y (by simp [hy])]
theorem idx_mem {α : Type} {f : α → Option Bool} {p : α → Bool} (l : List α) (hp : ∀ x ∈ l, f x = some (p x)) :
    forK l (fun (i : Nat) x (s : Unit) nx => callK (f x) fun y => if y = true then some (i : Int) else nx s) () (fun _ => some (-1)) = some (idxP p l) := by
  refine Eq.trans ?_ (forK_idx (f := fun x => some (p x)) (p := p) (fun x => rfl) l)
  exact forGo_congr l 0 () fun x hx i s nx => by rw [hp x hx]
/-- What is left: those for which the condition is false. -/
theorem delF_ok {α : Type} (z : α) {f : α → Option Bool} {p : α → Bool} (l : List α) (hl : l.length ≤ 1000000) (hp : ∀ x ∈ l, f x = some (p x)) : delF z f l = some (l.filter fun x => !p x) := by
  unfold delF
  rw [grd_pos (by omega), idx_mem l hp, callK_some]
  unfold idxP
  cases hi : l.findIdx? p with
  | none =>
    rw [List.findIdx?_eq_none_iff] at hi
    rw [if_pos rfl]
    congr 1
    refine (List.filter_eq_self.mpr fun x hx => ?_).symm
    simp [hi x hx]
  | some j =>
    obtain ⟨hj, h1, h2⟩ := List.findIdx?_eq_some_iff_getElem.mp hi
    dsimp only
    rw [if_neg (by omega), wrap_sm _ (by omega) (by omega)]
    have hfj : (l.take (j + 1)).filter (fun x => !p x) = l.take j := by
      rw [List.take_succ_eq_append_getElem hj, List.filter_append]
      have a : (l.take j).filter (fun x => !p x) = l.take j := List.filter_eq_self.mpr fun x hx => by
        obtain ⟨i, hi1, rfl⟩ := List.mem_take_iff_getElem.mp hx
        have := h2 i (by omega)
        simpa using this
      rw [a]; simp [h1]
    refine iterK_rule (fun d (s : Int × Int × List α) => ∃ w r : Nat, s.1 = w ∧ s.2.1 = r ∧ w < r ∧ r ≤ l.length ∧ d = l.length - r ∧ s.2.2.length = l.length ∧ s.2.2.take w = (l.take r).filter (fun x => !p x) ∧ s.2.2.drop r = l.drop r) ?_ (l.length - (j + 1)) _ (by unfold NN; omega)
      ⟨j, j + 1, rfl, by dsimp only; omega, by omega, by omega, rfl, rfl, hfj.symm, rfl⟩
    rintro d ⟨v3, v4, v5⟩ ⟨w, r, e1, e2, e3, e4, e5, e6, e7, e8⟩ nx hnx
    dsimp only at e1 e2 e6 e7 e8 hnx ⊢
    subst e1 e2
    have hfl : ((l.take r).filter (fun x => !p x)).length = w := by
      rw [← e7, List.length_take]; omega
    by_cases hr : r < l.length
    · have hx : v5[r]'(by omega) = l[r] := by
        have a := congrArg (fun t => t[0]?) e8
        simp [hr, e6] at a
        exact a
      rw [if_pos (by omega), getK_lt (by omega), hx, hp _ (List.getElem_mem hr), callK_some]
      have hs : (l.take (r + 1)).filter (fun x => !p x) = (l.take r).filter (fun x => !p x) ++ (if p l[r] = true then [] else [l[r]]) := by
        rw [List.take_succ_eq_append_getElem hr, List.filter_append]
        congr 1
        cases hq : p l[r] <;> simp [hq]
      have hd : ∀ u : List α, u.length = l.length → u.drop r = l.drop r → u.drop (r + 1) = l.drop (r + 1) := fun u _ h => by
        have := congrArg (List.drop 1) h
        simpa [List.drop_drop] using this
      by_cases hq : p l[r] = true
      · rw [if_pos hq, wrap_sm _ (by omega) (by omega)]
        exact hnx _ _ (by omega) ⟨w, r + 1, rfl, by dsimp only; omega, by omega, by omega, rfl, e6, by dsimp only; rw [hs, if_pos hq, List.append_nil, e7], hd _ e6 e8⟩
      · rw [if_neg hq, getK_lt (by omega), wrap_sm _ (by omega) (by omega), wrap_sm _ (by omega) (by omega), Int.toNat_natCast]
        refine hnx (l.length - (r + 1)) _ (by omega) ⟨w + 1, r + 1, by dsimp only; omega, by dsimp only; omega, by omega, by omega, rfl, by simpa using e6, ?_, ?_⟩
        · dsimp only
          rw [hs, if_neg hq, ← e7, List.take_succ_eq_append_getElem (by simp; omega), List.take_set_of_le (by omega)]
          simp
        · dsimp only
          rw [List.drop_set_of_lt (by omega)]
          exact hd _ e6 e8
    · have hrl : r = l.length := by omega
      subst hrl
      rw [if_neg (by omega), grd_pos (by omega), grd_pos (by simp; omega), Int.toNat_natCast, List.take_append_of_le_length (by simp; omega), List.take_take, Nat.min_self, e7, List.take_length]

/-! ### Strings in order -/
theorem bl_irr : ∀ x : List UInt8, Op.bytesLess x x = false
  | [] => rfl
  | a :: x => by simp [Op.bytesLess, bl_irr x, UInt8.lt_irrefl]
theorem bl_tr : ∀ {x y z : List UInt8}, Op.bytesLess x y = true → Op.bytesLess y z = true → Op.bytesLess x z = true
  | _, [], _, h, _ => by
    rename_i x _
    cases x <;> simp [Op.bytesLess] at h
  | _, b :: y, [], _, h => by simp [Op.bytesLess] at h
  | [], b :: y, c :: z, _, _ => rfl
  | a :: x, b :: y, c :: z, h1, h2 => by
    simp only [Op.bytesLess, Bool.or_eq_true, Bool.and_eq_true, decide_eq_true_eq, beq_iff_eq] at h1 h2 ⊢
    rcases h1 with h1 | ⟨rfl, h1⟩
    · rcases h2 with h2 | ⟨rfl, h2⟩
      · exact .inl (UInt8.lt_trans h1 h2)
      · exact .inl h1
    · rcases h2 with h2 | ⟨rfl, h2⟩
      · exact .inl h2
      · exact .inr ⟨rfl, bl_tr h1 h2⟩
theorem bl_tri : ∀ {x y : List UInt8}, Op.bytesLess x y = false → Op.bytesLess y x = false → x = y
  | [], [], _, _ => rfl
  | [], _ :: _, h, _ => by simp [Op.bytesLess] at h
  | _ :: _, [], _, h => by simp [Op.bytesLess] at h
  | a :: x, b :: y, h1, h2 => by
    simp only [Op.bytesLess, Bool.or_eq_false_iff, decide_eq_false_iff_not, Bool.and_eq_false_iff, beq_eq_false_iff_ne, ne_eq] at h1 h2
    have he : a = b := by
      rcases UInt8.lt_or_eq_of_le (UInt8.not_lt.mp h2.1) with h | h
      · exact absurd h h1.1
      · exact h
    subst he
    rcases h1.2 with h | h
    · exact absurd rfl h
    · rcases h2.2 with h' | h'
      · exact absurd rfl h'
      · rw [bl_tri h h']
def kl (a b : ByteArray) : Prop := Op.bytesLess a.toList b.toList = true
theorem kl_irr (a : ByteArray) : ¬ kl a a := by unfold kl; rw [bl_irr]; simp
theorem kl_tr (a b c : ByteArray) (h1 : kl a b) (h2 : kl b c) : kl a c := bl_tr h1 h2
theorem kl_tri (a b : ByteArray) (h1 : ¬ kl a b) (h2 : ¬ kl b a) : a = b := by
  unfold kl at h1 h2
  have := bl_tri (by simpa using h1) (by simpa using h2)
  rw [toList_data, toList_data] at this
  exact bytes_ext this
theorem kl_b (a b : ByteArray) : (Op.bytesLess a.toList b.toList = true) = kl a b := rfl
theorem kl_as {a b : ByteArray} (h : kl a b) : ¬ kl b a := fun h2 => kl_irr _ (kl_tr _ _ _ h h2)
theorem kl_ne {a b : ByteArray} (h : kl a b) : a ≠ b := fun e => kl_irr a (by rw [← e] at h; exact h)
theorem kl_empty (a : ByteArray) : ¬ kl a ⟨#[]⟩ := by
  unfold kl
  rw [show (⟨#[]⟩ : ByteArray).toList = [] from by rw [toList_data]]
  cases a.toList <;> simp [Op.bytesLess]
theorem kl_pos {a : ByteArray} (h : a ≠ ⟨#[]⟩) : kl ⟨#[]⟩ a := Classical.byContradiction fun hn => h (kl_tri _ _ (kl_empty a) hn)
/-! ### Orders one behind the other -/
def Lx {α κ : Type} (f : α → κ) (r : κ → κ → Prop) (S : α → α → Prop) (a b : α) : Prop := r (f a) (f b) ∨ (f a = f b ∧ S a b)
theorem Lx.tr {α κ : Type} {f : α → κ} {r : κ → κ → Prop} {S : α → α → Prop} (hr : ∀ x y z, r x y → r y z → r x z) (hS : ∀ a b c, S a b → S b c → S a c) (a b c : α) (h1 : Lx f r S a b) (h2 : Lx f r S b c) : Lx f r S a c := by
  rcases h1 with h1 | ⟨e1, h1⟩ <;> rcases h2 with h2 | ⟨e2, h2⟩
  · exact .inl (hr _ _ _ h1 h2)
  · exact .inl (e2 ▸ h1)
  · exact .inl (e1 ▸ h2)
  · exact .inr ⟨e1.trans e2, hS _ _ _ h1 h2⟩
theorem Lx.irr {α κ : Type} {f : α → κ} {r : κ → κ → Prop} {S : α → α → Prop} (hr : ∀ x, ¬ r x x) (hS : ∀ a, ¬ S a a) (a : α) : ¬ Lx f r S a a := by
  rintro (h | ⟨_, h⟩)
  · exact hr _ h
  · exact hS _ h
theorem Lx.tri {α κ : Type} {f : α → κ} {r : κ → κ → Prop} {S : α → α → Prop} (hr : ∀ x y, ¬ r x y → ¬ r y x → x = y) {a b : α} (h1 : ¬ Lx f r S a b) (h2 : ¬ Lx f r S b a) : f a = f b ∧ ¬ S a b ∧ ¬ S b a := by
  have e := hr (f a) (f b) (fun h => h1 (.inl h)) (fun h => h2 (.inl h))
  exact ⟨e, fun h => h1 (.inr ⟨e, h⟩), fun h => h2 (.inr ⟨e.symm, h⟩)⟩
/-- The internal order. -/
def RL : Record → Record → Prop := Lx (·.Key) kl (Lx (·.Seq) (· > ·) (Lx (·.Kind) (· < ·) (Lx (·.Value) kl fun a b => kl a.End b.End)))
theorem RL_tr (a b c : Record) : RL a b → RL b c → RL a c := by
  unfold RL
  refine Lx.tr kl_tr (Lx.tr (fun x y z h1 h2 => ?_) (Lx.tr (fun x y z h1 h2 => ?_) (Lx.tr kl_tr fun a b c h1 h2 => ?_))) a b c
  · exact Int.lt_trans h2 h1
  · exact Int.lt_trans h1 h2
  · exact kl_tr _ _ _ h1 h2
theorem RL_irr (a : Record) : ¬ RL a a := by
  unfold RL
  refine Lx.irr kl_irr (Lx.irr (fun x h => ?_) (Lx.irr (fun x h => ?_) (Lx.irr kl_irr fun a h => ?_))) a
  · exact Int.lt_irrefl _ h
  · exact Int.lt_irrefl _ h
  · exact kl_irr _ h
theorem RL_tri {a b : Record} (h1 : ¬ RL a b) (h2 : ¬ RL b a) : a = b := by
  obtain ⟨e1, h1, h2⟩ := Lx.tri kl_tri h1 h2
  obtain ⟨e2, h1, h2⟩ := Lx.tri (fun x y (h1 : ¬ x > y) (h2 : ¬ y > x) => by omega) h1 h2
  obtain ⟨e3, h1, h2⟩ := Lx.tri (fun x y (h1 : ¬ x < y) (h2 : ¬ y < x) => by omega) h1 h2
  obtain ⟨e4, h1, h2⟩ := Lx.tri kl_tri h1 h2
  have e5 := kl_tri _ _ h1 h2
  cases a; cases b
  simp_all
theorem RL_key {a b : Record} (h : RL a b) : kl a.Key b.Key ∨ a.Key = b.Key := h.imp id (·.1)
noncomputable def rl (a b : Record) : Bool := @decide (RL a b) (Classical.propDecidable _)
theorem rl_iff {a b : Record} : rl a b = true ↔ RL a b := by unfold rl; exact @decide_eq_true_iff _ (Classical.propDecidable _)
theorem rl_of {b : Bool} {x y : Record} (h : b = true ↔ RL x y) : b = rl x y := by rw [Bool.eq_iff_iff, h, rl_iff]
/-- Two rows in strict order with the same elements are one. -/
theorem sorted_ext {α : Type} {r : α → α → Prop} (tr : ∀ a b c, r a b → r b c → r a c) (irr : ∀ a, ¬ r a a) : ∀ {l m : List α}, l.Pairwise r → m.Pairwise r → (∀ x, x ∈ l ↔ x ∈ m) → l = m
  | [], [], _, _, _ => rfl
  | [], y :: m, _, _, h => by have := (h y).mpr (by simp); simp at this
  | x :: l, [], _, _, h => by have := (h x).mp (by simp); simp at this
  | x :: l, y :: m, h1, h2, h => by
    rw [List.pairwise_cons] at h1 h2
    have e : x = y := by
      rcases List.mem_cons.mp ((h x).mp (by simp)) with e | hx
      · exact e
      · rcases List.mem_cons.mp ((h y).mpr (by simp)) with e | hy
        · exact e.symm
        · exact absurd (tr _ _ _ (h1.1 y hy) (h2.1 x hx)) (irr x)
    subst e
    congr 1
    refine sorted_ext tr irr h1.2 h2.2 fun z => ?_
    constructor
    · intro hz
      rcases List.mem_cons.mp ((h z).mp (by simp [hz])) with e | h'
      · subst e; exact absurd (h1.1 z hz) (irr z)
      · exact h'
    · intro hz
      rcases List.mem_cons.mp ((h z).mpr (by simp [hz])) with e | h'
      · subst e; exact absurd (h2.1 z hz) (irr z)
      · exact h'
/-! ### A record put to its place -/
noncomputable def into : List Record → Record → List Record
  | [], r => [r]
  | x :: l, r => if rl x r = true then x :: into l r else @ite _ (x = r) (Classical.propDecidable _) (x :: l) (r :: x :: l)
theorem into_mem {x r : Record} : ∀ {l : List Record}, x ∈ into l r ↔ x ∈ l ∨ x = r
  | [] => by simp [into]
  | y :: l => by
    unfold into
    split
    · rw [List.mem_cons, into_mem (l := l), List.mem_cons, or_assoc]
    · split
      · rename_i e
        subst e
        simp
        intro h; subst h; exact .inl rfl
      · simp only [List.mem_cons]
        constructor
        · rintro (h | h | h)
          · exact .inr h
          · exact .inl (.inl h)
          · exact .inl (.inr h)
        · rintro ((h | h) | h)
          · exact .inr (.inl h)
          · exact .inr (.inr h)
          · exact .inl h
theorem into_sorted {r : Record} : ∀ {l : List Record}, l.Pairwise RL → (into l r).Pairwise RL
  | [], _ => by simp [into]
  | y :: l, h => by
    unfold into
    rw [List.pairwise_cons] at h
    split
    · rename_i c
      refine List.pairwise_cons.mpr ⟨fun x hx => ?_, into_sorted h.2⟩
      rcases into_mem.mp hx with hx | rfl
      · exact h.1 x hx
      · exact rl_iff.mp c
    · rename_i c
      split
      · exact List.pairwise_cons.mpr h
      · rename_i e
        have hry : RL r y := Classical.byContradiction fun hn => e (RL_tri (fun h => c (rl_iff.mpr h)) hn)
        refine List.pairwise_cons.mpr ⟨fun x hx => ?_, List.pairwise_cons.mpr h⟩
        rcases List.mem_cons.mp hx with rfl | hx
        · exact hry
        · exact RL_tr _ _ _ hry (h.1 x hx)
theorem into_len {r : Record} : ∀ {l : List Record}, r ∉ l → (into l r).length = l.length + 1
  | [], _ => rfl
  | y :: l, h => by
    unfold into
    split
    · simp only [List.length_cons, into_len (l := l) (r := r) (fun hm => h (List.mem_cons_of_mem _ hm))]
    · split
      · rename_i e; exact absurd (by simp [e]) h
      · rfl
theorem into_len_le (r : Record) : ∀ (l : List Record), (into l r).length ≤ l.length + 1
  | [] => by simp [into]
  | y :: l => by
    unfold into
    split
    · have := into_len_le r l; simp only [List.length_cons]; omega
    · split <;> simp
theorem into_at {r : Record} : ∀ {l : List Record} {i : Nat} (hi : i < l.length), (∀ j (hj : j < i), rl (l[j]'(by omega)) r = true) → rl l[i] r = false → into l r = @ite _ (l[i] = r) (Classical.propDecidable _) l (l.take i ++ r :: l.drop i)
  | x :: l, 0, hi, _, h => by
    unfold into
    simp only [List.getElem_cons_zero] at h ⊢
    rw [if_neg (by rw [h]; decide)]
    by_cases e : x = r
    · rw [if_pos e, if_pos e]
    · rw [if_neg e, if_neg e]; rfl
  | x :: l, i + 1, hi, h1, h => by
    have h0 := h1 0 (by omega)
    simp only [List.getElem_cons_zero] at h0
    unfold into
    rw [if_pos h0, into_at (l := l) (i := i) (by simpa using hi) (fun j hj => by have := h1 (j + 1) (by omega); simpa using this) (by simpa using h)]
    simp only [List.getElem_cons_succ]
    split <;> rfl
theorem into_end {r : Record} : ∀ {l : List Record}, (∀ x ∈ l, rl x r = true) → into l r = l ++ [r]
  | [], _ => rfl
  | x :: l, h => by
    unfold into
    rw [if_pos (h x (by simp)), into_end fun y hy => h y (by simp [hy])]; rfl
theorem fold_into : ∀ (l acc : List Record), acc.Pairwise RL → (∀ x ∈ acc, ∀ y ∈ l, x ≠ y) → l.Pairwise (· ≠ ·) → (l.foldl into acc).Pairwise RL ∧ (∀ x, x ∈ l.foldl into acc ↔ x ∈ acc ∨ x ∈ l) ∧ (l.foldl into acc).length = acc.length + l.length
  | [], acc, h, _, _ => ⟨h, by simp, by simp⟩
  | y :: l, acc, h, h1, h2 => by
    rw [List.pairwise_cons] at h2
    rw [List.foldl_cons]
    obtain ⟨g1, g2, g3⟩ := fold_into l (into acc y) (into_sorted h) (fun x hx z hz => by
      rcases into_mem.mp hx with hx | rfl
      · exact h1 x hx z (by simp [hz])
      · exact h2.1 z hz) h2.2
    refine ⟨g1, fun x => ?_, ?_⟩
    · rw [g2, into_mem, List.mem_cons, or_assoc]
    · rw [g3, into_len (fun hm => h1 y hm y (by simp) rfl), List.length_cons]; omega
theorem fold_into_mem : ∀ (l acc : List Record) (x : Record), x ∈ l.foldl into acc ↔ x ∈ acc ∨ x ∈ l
  | [], acc, x => by simp
  | y :: l, acc, x => by rw [List.foldl_cons, fold_into_mem, into_mem, List.mem_cons, or_assoc]
theorem fold_into_sorted : ∀ (l acc : List Record), acc.Pairwise RL → (l.foldl into acc).Pairwise RL
  | [], acc, h => h
  | y :: l, acc, h => by rw [List.foldl_cons]; exact fold_into_sorted l _ (into_sorted h)
/-! ### Valid records, runs -/
def okKey (k : ByteArray) : Bool := inR (k.size : Int) 1 8
def isE (s : ByteArray) : Bool := s.toList == (⟨#[]⟩ : ByteArray).toList
theorem isE_iff {s : ByteArray} : isE s = true ↔ s = ⟨#[]⟩ := by unfold isE; rw [str_eq]; exact decide_eq_true_iff
def okRec (r : Record) : Bool := okKey r.Key && (inR r.Seq 1 1000000 && (if r.Kind = 1 then decide ((r.Value.size : Int) ≤ 16) && isE r.End else if r.Kind = 2 then isE r.Value && isE r.End else if r.Kind = 3 then isE r.Value && (okKey r.End && Op.bytesLess r.Key.toList r.End.toList) else false))
theorem okKey_ne {k : ByteArray} (h : okKey k = true) : k ≠ ⟨#[]⟩ := by
  rintro rfl
  have := inR_iff.mp h
  simp [ByteArray.size] at this
theorem okRec_seq {r : Record} (h : okRec r = true) : 1 ≤ r.Seq ∧ r.Seq ≤ 1000000 := by
  unfold okRec at h
  simp only [Bool.and_eq_true] at h
  exact inR_iff.mp h.2.1
theorem okRec_key {r : Record} (h : okRec r = true) : okKey r.Key = true := by
  unfold okRec at h
  simp only [Bool.and_eq_true] at h
  exact h.1
structure Run (l : List Record) : Prop where
  ok : ∀ r ∈ l, okRec r = true
  srt : l.Pairwise RL
  inj : ∀ a ∈ l, ∀ b ∈ l, a.Seq = b.Seq → a = b
theorem Run.sub {l m : List Record} (h : Run l) (hs : m.Sublist l) : Run m := ⟨fun r hr => h.ok r (hs.subset hr), h.srt.sublist hs, fun a ha b hb => h.inj a (hs.subset ha) b (hs.subset hb)⟩
theorem Run.filter {l : List Record} (h : Run l) (p : Record → Bool) : Run (l.filter p) := h.sub List.filter_sublist
theorem Run.nil : Run [] := ⟨fun r hr => by simp at hr, .nil, fun a ha => by simp at ha⟩
theorem Run.ne {l : List Record} (h : Run l) : l.Pairwise (· ≠ ·) := h.srt.imp fun hr e => by subst e; exact RL_irr _ hr
theorem Run.into {l : List Record} (h : Run l) {r : Record} (hr : okRec r = true) (hn : ∀ x ∈ l, x.Seq ≠ r.Seq) : Run (into l r) := by
  refine ⟨fun x hx => ?_, into_sorted h.srt, fun a ha b hb e => ?_⟩
  · rcases into_mem.mp hx with hx | rfl
    · exact h.ok x hx
    · exact hr
  · rcases into_mem.mp ha with a1 | a1 <;> rcases into_mem.mp hb with b1 | b1
    · exact h.inj a a1 b b1 e
    · exact absurd (by rw [e, b1]) (hn a a1)
    · exact absurd (by rw [← e, a1]) (hn b b1)
    · rw [a1, b1]
/-! ### What a record does to a key -/
def aff (r : Record) (k : ByteArray) : Bool := if r.Kind = 3 then (Op.bytesLess r.Key.toList k.toList || r.Key.toList == k.toList) && Op.bytesLess k.toList r.End.toList else r.Key.toList == k.toList
theorem aff_key {r : Record} (h : r.Kind ≠ 3) {k : ByteArray} (ha : aff r k = true) : r.Key = k := by
  unfold aff at ha
  rw [if_neg h, str_eq] at ha
  exact of_decide_eq_true ha
def zR : Record := ⟨⟨#[]⟩, 0, 0, ⟨#[]⟩, ⟨#[]⟩⟩
/-- The newest record that affects a key, up to a sequence number. -/
structure New (l : List Record) (k : ByteArray) (s : Int) (n : Record) : Prop where
  has : n = zR ∨ (n ∈ l ∧ aff n k = true ∧ n.Seq ≤ s)
  top : ∀ x ∈ l, aff x k = true → x.Seq ≤ s → x.Seq ≤ n.Seq
theorem New.uniq {l : List Record} (h : Run l) {k : ByteArray} {s : Int} {n m : Record} (h1 : New l k s n) (h2 : New l k s m) : n = m := by
  rcases h1.has with e1 | ⟨a1, a2, a3⟩ <;> rcases h2.has with e2 | ⟨b1, b2, b3⟩
  · rw [e1, e2]
  · have := h1.top m b1 b2 b3
    have := okRec_seq (h.ok m b1)
    rw [e1] at *
    unfold zR at *
    dsimp only at *
    omega
  · have := h2.top n a1 a2 a3
    have := okRec_seq (h.ok n a1)
    rw [e2] at *
    unfold zR at *
    dsimp only at *
    omega
  · have h3 := h1.top m b1 b2 b3
    have h4 := h2.top n a1 a2 a3
    exact h.inj n a1 m b1 (by omega)
def getV (n : Record) : Option ByteArray := if n.Seq > 0 ∧ n.Kind = 1 then some n.Value else none
/-! ### The keys of a run -/
def keysG : ByteArray → List Record → List ByteArray
  | _, [] => []
  | last, x :: l => if (x.Key.toList == last.toList) = true then keysG last l else x.Key :: keysG x.Key l
theorem keysG_mem {k : ByteArray} : ∀ {l : List Record} {last : ByteArray}, k ∈ keysG last l → ∃ x ∈ l, x.Key = k
  | [], _, h => by simp [keysG] at h
  | x :: l, last, h => by
    unfold keysG at h
    split at h
    · obtain ⟨y, h1, h2⟩ := keysG_mem h
      exact ⟨y, by simp [h1], h2⟩
    · rcases List.mem_cons.mp h with rfl | h
      · exact ⟨x, by simp, rfl⟩
      · obtain ⟨y, h1, h2⟩ := keysG_mem h
        exact ⟨y, by simp [h1], h2⟩
theorem keysG_of {k : ByteArray} : ∀ {l : List Record} {last : ByteArray}, k ≠ last → (∃ x ∈ l, x.Key = k) → k ∈ keysG last l
  | [], _, _, ⟨x, h, _⟩ => by simp at h
  | y :: l, last, hne, ⟨x, hx, hk⟩ => by
    unfold keysG
    split
    · rename_i e
      rw [str_eq, decide_eq_true_eq] at e
      rcases List.mem_cons.mp hx with rfl | hx
      · exact absurd (hk.symm.trans e) hne
      · exact keysG_of hne ⟨x, hx, hk⟩
    · by_cases e : k = y.Key
      · rw [e]; simp
      · rcases List.mem_cons.mp hx with rfl | hx
        · exact absurd hk.symm e
        · exact List.mem_cons_of_mem _ (keysG_of e ⟨x, hx, hk⟩)
theorem keysG_sorted : ∀ {l : List Record} {last : ByteArray}, l.Pairwise RL → (∀ x ∈ l, kl last x.Key ∨ last = x.Key) → (last :: keysG last l).Pairwise kl
  | [], _, _, _ => by simp [keysG]
  | x :: l, last, h, hl => by
    rw [List.pairwise_cons] at h
    unfold keysG
    split
    · exact keysG_sorted h.2 fun y hy => hl y (by simp [hy])
    · rename_i e
      rw [str_eq, decide_eq_true_eq] at e
      have hx : kl last x.Key := (hl x (by simp)).resolve_right fun h => e h.symm
      have ih := keysG_sorted (l := l) (last := x.Key) h.2 fun y hy => RL_key (h.1 y hy)
      refine List.pairwise_cons.mpr ⟨fun k hk => ?_, ih⟩
      rcases List.mem_cons.mp hk with rfl | hk
      · exact hx
      · exact kl_tr _ _ _ hx ((List.pairwise_cons.mp ih).1 k hk)
def keysOf (l : List Record) : List ByteArray := keysG ⟨#[]⟩ l
theorem keysOf_sorted {l : List Record} (h : Run l) : (keysOf l).Pairwise kl := (List.pairwise_cons.mp (keysG_sorted h.srt fun x hx => .inl (kl_pos (okKey_ne (okRec_key (h.ok x hx)))))).2
theorem keysOf_mem {l : List Record} (h : Run l) {k : ByteArray} : k ∈ keysOf l ↔ ∃ x ∈ l, x.Key = k := ⟨keysG_mem, fun ⟨x, hx, hk⟩ => keysG_of (by rw [← hk]; exact okKey_ne (okRec_key (h.ok x hx))) ⟨x, hx, hk⟩⟩
/-- What is visible of a run: each key with its value. -/
def visOf (g : ByteArray → Option ByteArray) (ks : List ByteArray) : List Pair := ks.filterMap fun k => (g k).map fun v => ⟨k, v⟩
theorem vis_eq {A B : List Record} (hA : Run A) (hB : Run B) {g : ByteArray → Option ByteArray} (h : ∀ k, g k ≠ none → (∃ x ∈ A, x.Key = k) ∧ ∃ x ∈ B, x.Key = k) : visOf g (keysOf A) = visOf g (keysOf B) := by
  have e : ∀ ks : List ByteArray, visOf g ks = visOf g (ks.filter fun k => (g k).isSome) := by
    intro ks
    unfold visOf
    induction ks with
    | nil => rfl
    | cons k ks ih =>
      rw [List.filterMap_cons, List.filter_cons]
      cases hg : g k with
      | none => simp only [Option.map_none, Option.isSome_none, Bool.false_eq_true, if_false]; exact ih
      | some v => simp only [Option.map_some, Option.isSome_some, if_true, List.filterMap_cons, hg]; rw [ih]
  rw [e, e (keysOf B)]
  congr 1
  refine sorted_ext kl_tr kl_irr ((keysOf_sorted hA).filter _) ((keysOf_sorted hB).filter _) fun k => ?_
  simp only [List.mem_filter, keysOf_mem hA, keysOf_mem hB, Option.isSome_iff_ne_none]
  exact ⟨fun ⟨_, h2⟩ => ⟨(h k h2).2, h2⟩, fun ⟨_, h2⟩ => ⟨(h k h2).1, h2⟩⟩

theorem less_cmp : ∀ (x y : List UInt8), Op.bytesLess x y = decide (Lib.compareBytes x y < 0)
  | _, [] => by
    rename_i x
    cases x <;> rfl
  | [], _ :: _ => rfl
  | a :: x, b :: y => by
    rw [Op.bytesLess, Lib.compareBytes, less_cmp x y]
    by_cases h1 : a < b
    · simp [h1]
    · by_cases h2 : b < a
      · have hne : a ≠ b := fun e => by subst e; exact h1 h2
        simp [h1, h2, hne]
      · have he : a = b := by
          have e1 : ¬ a.toNat < b.toNat := fun h => h1 (by rwa [UInt8.lt_iff_toNat_lt])
          have e2 : ¬ b.toNat < a.toNat := fun h => h2 (by rwa [UInt8.lt_iff_toNat_lt])
          exact UInt8.toNat_inj.mp (by omega)
        simp [h1, h2, he]
theorem cmp_zero : ∀ (x y : List UInt8), Lib.compareBytes x y = 0 ↔ x = y
  | [], [] => by simp [Lib.compareBytes]
  | [], _ :: _ => by simp [Lib.compareBytes]
  | _ :: _, [] => by simp [Lib.compareBytes]
  | a :: x, b :: y => by
    rw [Lib.compareBytes]
    by_cases h1 : a < b
    · have hne : a ≠ b := fun e => by subst e; rw [UInt8.lt_iff_toNat_lt] at h1; omega
      simp [h1, hne]
    · by_cases h2 : b < a
      · have hne : a ≠ b := fun e => by subst e; exact h1 h2
        simp [h1, h2, hne]
      · have he : a = b := by
          have e1 : ¬ a.toNat < b.toNat := fun h => h1 (by rwa [UInt8.lt_iff_toNat_lt])
          have e2 : ¬ b.toNat < a.toNat := fun h => h2 (by rwa [UInt8.lt_iff_toNat_lt])
          exact UInt8.toNat_inj.mp (by omega)
        simp [h1, h2, he, cmp_zero x y]
theorem cmpB_lt {a b : ByteArray} : cmpB a b < 0 ↔ kl a b := by
  unfold cmpB kl
  rw [toList_data, toList_data, less_cmp, decide_eq_true_iff]
theorem cmpB_eq {a b : ByteArray} : cmpB a b = 0 ↔ a = b := by
  unfold cmpB
  rw [cmp_zero]
  exact ⟨bytes_ext, fun h => by rw [h]⟩

/-! ### What the functions on records come to -/
theorem ifs_pos {R : Type} {a b : ByteArray} (h : a = b) (x y : Option R) : (if (a.toList == b.toList) = true then x else y) = x := by rw [if_pos]; rw [str_eq]; exact decide_eq_true h
theorem ifs_neg {R : Type} {a b : ByteArray} (h : a ≠ b) (x y : Option R) : (if (a.toList == b.toList) = true then x else y) = y := by rw [if_neg]; rw [str_eq]; simpa using h
theorem pl_sLess (a b : Record) : p_spec_l17Less a b = some (rl a b) := by
  unfold p_spec_l17Less
  by_cases k : a.Key = b.Key
  · rw [ifs_pos k]
    by_cases s : a.Seq = b.Seq
    · rw [if_neg (by simpa using s)]
      by_cases d : a.Kind = b.Kind
      · rw [if_neg (by simpa using d)]
        by_cases v : a.Value = b.Value
        · rw [ifs_pos v]
          congr 1
          exact rl_of (by rw [kl_b]; simp [RL, Lx, k, s, d, v, kl_irr])
        · rw [ifs_neg v]
          congr 1
          exact rl_of (by rw [kl_b]; simp [RL, Lx, k, s, d, v, kl_irr])
      · rw [if_pos d]
        congr 1
        exact rl_of (by simp [RL, Lx, k, s, d, kl_irr])
    · rw [if_pos s]
      congr 1
      exact rl_of (by simp [RL, Lx, k, s, kl_irr])
  · rw [ifs_neg k]
    congr 1
    exact rl_of (by rw [kl_b]; simp [RL, Lx, k])
def cmpN (a b : Int) : Int := if a < b then -1 else if a > b then 1 else 0
theorem pl_cmp (a b : Int) : p_cmp_Compare a b = some (cmpN a b) := by
  unfold p_cmp_Compare p_cmp_isNaN cmpN
  simp only [callK_some, bne_self_eq_false, Bool.false_eq_true, if_false]
  repeat' split
  all_goals rfl
theorem pl_or5 (a b c d e : Int) : p_cmp_Or ([a, b, c, d, e] : List Int) = some (if a ≠ 0 then a else if b ≠ 0 then b else if c ≠ 0 then c else if d ≠ 0 then d else e) := by
  unfold p_cmp_Or forK
  rw [grd_pos (by simp)]
  simp only [forGo_cons, forGo_nil]
  repeat' split
  all_goals simp_all
theorem pl_iLess (a b : Record) : p_impl_LessRecord a b = some (rl a b) := by
  unfold p_impl_LessRecord p_impl_compareRecords
  rw [pl_cmp, callK_some, pl_cmp, callK_some, pl_or5, callK_some, callK_some]
  congr 1
  refine rl_of ?_
  rw [decide_eq_true_iff]
  have e1 := cmpB_eq (a := a.Key) (b := b.Key)
  have l1 := cmpB_lt (a := a.Key) (b := b.Key)
  have e4 := cmpB_eq (a := a.Value) (b := b.Value)
  have l4 := cmpB_lt (a := a.Value) (b := b.Value)
  have l5 := cmpB_lt (a := a.End) (b := b.End)
  generalize cmpB a.Key b.Key = x1 at *
  generalize cmpB a.Value b.Value = x4 at *
  generalize cmpB a.End b.End = x5 at *
  simp only [RL, Lx]
  rw [← l1, ← l4, ← l5, ← e1, ← e4]
  unfold cmpN
  by_cases k : x1 = 0
  · subst k
    rw [if_neg (by simp)]
    rcases Int.lt_trichotomy b.Seq a.Seq with s | s | s
    · simp [s]
    · simp only [s, Int.lt_irrefl, gt_iff_lt, if_false, ne_eq, not_true_eq_false, false_or, true_and]
      rcases Int.lt_trichotomy a.Kind b.Kind with d | d | d
      · simp [d]
      · simp only [d, Int.lt_irrefl, if_false, not_true_eq_false, false_or, true_and]
        by_cases v : x4 = 0
        · subst v; simp
        · simp [v]
      · have d2 : ¬ a.Kind < b.Kind := by omega
        have d3 : ¬ a.Kind = b.Kind := by omega
        simp [d, d2, d3]
    · have s2 : ¬ b.Seq < a.Seq := by omega
      have s3 : ¬ a.Seq = b.Seq := by omega
      simp [s, s2, s3]
  · rw [if_pos k]
    simp [k]
theorem pl_iKey (k : ByteArray) : p_impl_ValidKey k = some (okKey k) := rfl
theorem pl_sKey (k : ByteArray) : p_spec_l17Key k = some (okKey k) := by
  unfold p_spec_l17Key okKey
  split
  · rename_i h
    congr 1
    rw [Bool.eq_iff_iff, decide_eq_true_iff, inR_iff]
    omega
  · rename_i h
    rw [inR_not.mpr (by omega)]
theorem pl_sRec (r : Record) : p_spec_l17Valid r = some (okRec r) := by
  unfold p_spec_l17Valid okRec
  rw [pl_sKey, callK_some]
  cases okKey r.Key
  · rfl
  cases inR r.Seq 1 1000000
  · rfl
  simp only [if_true, Bool.true_and]
  by_cases k1 : r.Kind = 1
  · rw [if_pos k1, if_pos k1]
    by_cases hv : (r.Value.size : Int) ≤ 16
    · rw [if_pos hv]; simp [hv, isE]
    · rw [if_neg hv]; simp [hv]
  · rw [if_neg k1, if_neg k1]
    by_cases k2 : r.Kind = 2
    · rw [if_pos k2, if_pos k2]
      unfold isE
      cases r.Value.toList == (⟨#[]⟩ : ByteArray).toList <;> rfl
    · rw [if_neg k2, if_neg k2]
      by_cases k3 : r.Kind = 3
      · rw [if_pos k3, if_pos k3, pl_sKey, callK_some]
        unfold isE
        cases r.Value.toList == (⟨#[]⟩ : ByteArray).toList <;> cases okKey r.End <;> rfl
      · rw [if_neg k3, if_neg k3]
theorem less_not (a b : ByteArray) : (!(Op.bytesLess a.toList b.toList || a.toList == b.toList)) = Op.bytesLess b.toList a.toList := by
  rw [str_eq, Bool.eq_iff_iff]
  simp only [Bool.not_eq_true', Bool.or_eq_false_iff, decide_eq_false_iff_not]
  constructor
  · rintro ⟨h1, h2⟩
    exact Classical.byContradiction fun h => h2 (kl_tri a b (by unfold kl; rw [h1]; simp) h)
  · intro h
    have h : kl b a := h
    refine ⟨?_, (kl_ne h).symm⟩
    have := kl_as h
    unfold kl at this
    simpa using this
theorem pl_iRec (r : Record) : p_impl_ValidRecord r = some (okRec r) := by
  rw [← pl_sRec]
  unfold p_impl_ValidRecord p_spec_l17Valid
  simp only [pl_iKey, pl_sKey, callK_some, less_not]
theorem pl_iAff (r : Record) (k : ByteArray) : p_impl_Record_affects r k = some (aff r k) := by
  unfold p_impl_Record_affects aff
  split
  · cases (Op.bytesLess r.Key.toList k.toList || r.Key.toList == k.toList) <;> rfl
  · rfl
theorem pl_sAff (r : Record) (k : ByteArray) : p_spec_l17Affects r k = some (aff r k) := by
  unfold p_spec_l17Affects aff
  split
  · cases (Op.bytesLess r.Key.toList k.toList || r.Key.toList == k.toList) <;> rfl
  · rfl
theorem mget_put (m z : Int) : ∀ (l : List (Int × Bool)) (n : Int) (x d : Bool), mgetT (mputT l n x) m d = if m = n then x else mgetT l m d
  | [], n, x, d => by
    simp only [mputT, mgetT]
    by_cases h : n = m
    · rw [if_pos h, if_pos h.symm]
    · rw [if_neg h, if_neg (Ne.symm h)]
  | (a, y) :: l, n, x, d => by
    simp only [mputT]
    by_cases h : a = n
    · subst h
      rw [if_pos rfl]
      simp only [mgetT]
      by_cases h2 : a = m
      · rw [if_pos h2, if_pos h2.symm]
      · rw [if_neg h2, if_neg (Ne.symm h2), if_neg h2]
    · rw [if_neg h]
      simp only [mgetT]
      by_cases h2 : a = m
      · rw [if_pos h2, if_pos h2, if_neg (fun e => h (h2.trans e))]
      · rw [if_neg h2, if_neg h2, mget_put m z l n x d]
theorem run_lt {l : List Record} (h : Run l) {i j : Nat} (hij : i < j) (hj : j < l.length) : RL (l[i]'(by omega)) l[j] := List.pairwise_iff_getElem.mp h.srt i j (by omega) hj hij
theorem run_seq {l : List Record} (h : Run l) {i j : Nat} (hij : i < j) (hj : j < l.length) : (l[i]'(by omega)).Seq ≠ l[j].Seq := fun e => by
  have := h.inj _ (List.getElem_mem (show i < l.length by omega)) _ (List.getElem_mem hj) e
  have h2 := run_lt h hij hj
  rw [this] at h2
  exact RL_irr _ h2
theorem pl_iRun {l : List Record} (h : Run l) (hl : l.length ≤ 1000000) : p_impl_ValidRun l = some true := by
  unfold p_impl_ValidRun
  rw [grd_pos (by omega)]
  refine forK_rule (fun i v => ∀ n, mgetT v n false = true → ∃ j, ∃ (hj : j < l.length), j < i ∧ l[j].Seq = n) (fun i hi v hv nx hnx => ?_) (fun v hv => rfl) _ (fun n hn => by simp [mgetT] at hn)
  rw [pl_iRec, callK_some, h.ok _ (List.getElem_mem hi), if_pos rfl]
  have hno : mgetT v l[i].Seq false = false := by
    cases hm : mgetT v l[i].Seq false
    · rfl
    · obtain ⟨j, hj, hji, e⟩ := hv _ hm
      exact absurd e (run_seq h hji hi)
  have hput : ∀ n, mgetT (mputT v l[i].Seq true) n false = true → ∃ j, ∃ (hj : j < l.length), j < i + 1 ∧ l[j].Seq = n := fun n hn => by
    rw [mget_put n 0] at hn
    by_cases e : n = l[i].Seq
    · exact ⟨i, hi, by omega, e.symm⟩
    · rw [if_neg e] at hn
      obtain ⟨j, hj, hji, e⟩ := hv n hn
      exact ⟨j, hj, by omega, e⟩
  rw [hno, if_neg (by decide)]
  by_cases h0 : (i : Int) > 0
  · have hw : IntKind.i64.wrap ((i : Int) - 1) = ((i - 1 : Nat) : Int) := by rw [wrap_sm _ (by omega) (by omega)]; omega
    rw [if_pos h0, hw, getK_lt (by omega), pl_iLess, callK_some, rl_iff.mpr (run_lt h (show i - 1 < i by omega) hi), if_pos rfl]
    exact hnx _ hput
  · rw [if_neg h0]
    exact hnx _ hput
theorem pl_sRun {l : List Record} (h : Run l) (hl : l.length ≤ 1000000) : p_spec_l17Run l = some true := by
  unfold p_spec_l17Run
  rw [grd_pos (by omega)]
  refine forK_rule (fun i v => True) (fun i hi v hv nx hnx => ?_) (fun v hv => rfl) _ trivial
  rw [pl_sRec, callK_some, h.ok _ (List.getElem_mem hi), if_pos rfl]
  have inner : (forI (i : Int) (fun (j : Nat) (_ : Unit) (nx40 : Unit → Option Bool) => getK l (j : Int) fun x41 => if x41.Seq = l[i].Seq then some false else nx40 ()) () fun (_ : Unit) => nx ()) = some true := by
    refine forI_rule (fun _ _ => True) (fun j hj s _ nx2 hnx2 => ?_) (fun s _ => hnx () trivial) () trivial
    rw [getK_lt (show j < l.length by omega), if_neg (run_seq h (show j < i by omega) hi)]
    exact hnx2 () trivial
  by_cases h0 : (i : Int) > 0
  · have hw : IntKind.i64.wrap ((i : Int) - 1) = ((i - 1 : Nat) : Int) := by rw [wrap_sm _ (by omega) (by omega)]; omega
    rw [if_pos h0, hw, getK_lt (by omega), pl_sLess, callK_some, rl_iff.mpr (run_lt h (show i - 1 < i by omega) hi), if_pos rfl, grd_pos (by omega)]
    exact inner
  · rw [if_neg h0, grd_pos (by omega)]
    exact inner
theorem rec_eq (x r : Record) : ((x.Key.toList == r.Key.toList) && ((x.Seq == r.Seq) && ((x.Kind == r.Kind) && ((x.Value.toList == r.Value.toList) && ((x.End.toList == r.End.toList) && true))))) = @decide (x = r) (Classical.propDecidable _) := by
  rw [Bool.eq_iff_iff, @decide_eq_true_iff _ (Classical.propDecidable _)]
  simp only [str_eq, Bool.and_eq_true, beq_iff_eq, decide_eq_true_eq, and_true]
  constructor
  · rintro ⟨h1, h2, h3, h4, h5⟩
    cases x; cases r
    simp_all
  · rintro rfl; simp
theorem cut0 {α : Type} (l : List α) (n : Nat) : (l.drop (Int.toNat 0)).take (Int.toNat (n : Int) - Int.toNat 0) = l.take n := by simp
theorem cutE {α : Type} (l : List α) (n : Nat) : (l.drop (Int.toNat (n : Int))).take (Int.toNat (l.length : Int) - Int.toNat (n : Int)) = l.drop n := by
  rw [Int.toNat_natCast, Int.toNat_natCast]
  exact List.take_of_length_le (by rw [List.length_drop]; exact Nat.le_refl _)
theorem pl_into {l : List Record} (r : Record) (hl : l.length ≤ 1000000) : p_spec_l17Into l r = some (into l r) := by
  unfold p_spec_l17Into
  rw [grd_pos (by omega)]
  refine forK_rule (fun i _ => ∀ j, ∀ (hj : j < l.length), j < i → rl l[j] r = true) (fun i hi v hv nx hnx => ?_) (fun v hv => ?_) () (fun j hj h => by omega)
  · rw [pl_sLess, callK_some]
    cases hc : rl l[i] r
    · rw [if_neg (by decide), rec_eq, into_at hi (fun j hj => hv j (by omega) hj) hc]
      by_cases e : l[i] = r
      · rw [if_pos (by simpa using e), if_pos e]
      · rw [if_neg (by simpa using e), if_neg e, cut0, cutE, grd_pos (by omega), grd_pos (appOk_of _ _ (by rw [List.length_take]; omega)), grd_pos (appOk_of _ _ (by rw [List.length_take]; omega)), grd_pos (by omega),
          grd_pos (appOk_of _ _ (by simp only [List.length_append, List.length_take, List.length_drop, List.length_cons, List.length_nil]; omega))]
        simp
    · rw [if_pos rfl]
      refine hnx () fun j hj h => ?_
      by_cases e : j = i
      · subst e; exact hc
      · exact hv j hj (by omega)
  · rw [cut0, cutE, grd_pos (by omega), grd_pos (appOk_of _ _ (by rw [List.length_take]; omega)), grd_pos (appOk_of _ _ (by rw [List.length_take]; omega)), grd_pos (by omega),
      grd_pos (appOk_of _ _ (by simp only [List.length_append, List.length_take, List.length_drop, List.length_cons, List.length_nil]; omega))]
    rw [into_end (fun x hx => by obtain ⟨j, hj, rfl⟩ := List.mem_iff_getElem.mp hx; exact hv j hj hj)]
    simp
theorem fold_into_le : ∀ (l acc : List Record), (l.foldl into acc).length ≤ acc.length + l.length
  | [], acc => by simp
  | y :: l, acc => by
    rw [List.foldl_cons]
    have h1 := fold_into_le l (into acc y)
    have h2 := into_len_le y acc
    rw [List.length_cons]; omega
/-- What may be seen of a run. -/
theorem pl_newest {l : List Record} (h : Run l) (hl : l.length ≤ 1000000) (k : ByteArray) (s : Int) : ∃ n, p_spec_l17Newest l k s = some (n, decide (n.Seq > 0)) ∧ New l k s n := by
  unfold p_spec_l17Newest
  rw [grd_pos (by omega)]
  obtain ⟨r, e, n, e2, h1, h2⟩ := forK_ex (l := l) (f := fun (i9 : Nat) x12 (v10 : Record) (nx11 : Record → Option (Record × Bool)) =>
      callK (p_spec_l17Affects x12 k) fun y13 =>
      if y13 = true then
        if x12.Seq ≤ s then
          if x12.Seq > v10.Seq then nx11 x12 else nx11 v10
        else nx11 v10
      else nx11 v10) (k := fun (v10 : Record) => some (v10, (decide (v10.Seq > 0)))) (Q := fun r => ∃ n, r = (n, decide (n.Seq > 0)) ∧ (n = zR ∨ (n ∈ l ∧ aff n k = true ∧ n.Seq ≤ s)) ∧ ∀ x ∈ l, aff x k = true → x.Seq ≤ s → x.Seq ≤ n.Seq)
    (fun i v => (v = zR ∨ (v ∈ l ∧ aff v k = true ∧ v.Seq ≤ s)) ∧ ∀ x ∈ l.take i, aff x k = true → x.Seq ≤ s → x.Seq ≤ v.Seq)
    (fun i hi v hv nx hnx => by
      obtain ⟨g1, g2⟩ := hv
      have keep : (aff l[i] k = true → l[i].Seq ≤ s → l[i].Seq ≤ v.Seq) → ∃ r, nx v = some r ∧ _ := fun hk => hnx v ⟨g1, fun x hx => by
        rw [List.take_succ_eq_append_getElem hi] at hx
        rcases List.mem_append.mp hx with hx | hx
        · exact g2 x hx
        · rw [List.mem_singleton] at hx; subst hx; exact hk⟩
      rw [pl_sAff, callK_some]
      by_cases ha : aff l[i] k = true
      · rw [if_pos ha]
        by_cases hs : l[i].Seq ≤ s
        · rw [if_pos hs]
          by_cases ht : l[i].Seq > v.Seq
          · rw [if_pos ht]
            refine hnx _ ⟨.inr ⟨List.getElem_mem hi, ha, hs⟩, fun x hx h3 h4 => ?_⟩
            rw [List.take_succ_eq_append_getElem hi] at hx
            rcases List.mem_append.mp hx with hx | hx
            · have := g2 x hx h3 h4; omega
            · rw [List.mem_singleton] at hx; subst hx; exact Int.le_refl _
          · rw [if_neg ht]
            exact keep fun _ _ => by omega
        · rw [if_neg hs]
          exact keep fun _ h => absurd h hs
      · rw [if_neg ha]
        exact keep fun h => absurd h ha)
    (fun v hv => ⟨_, rfl, v, rfl, hv.1, by have := hv.2; rwa [List.take_length] at this⟩) zR ⟨.inl rfl, by simp⟩
  subst e2
  exact ⟨n, e, h1, h2⟩
noncomputable def nw (l : List Record) (k : ByteArray) (s : Int) : Record := ((p_spec_l17Newest l k s).getD (zR, false)).1
theorem nw_ok {l : List Record} (h : Run l) (hl : l.length ≤ 1000000) (k : ByteArray) (s : Int) : p_spec_l17Newest l k s = some (nw l k s, decide ((nw l k s).Seq > 0)) ∧ New l k s (nw l k s) := by
  obtain ⟨n, e, hn⟩ := pl_newest h hl k s
  have : nw l k s = n := by unfold nw; rw [e]; rfl
  rw [this]
  exact ⟨e, hn⟩
noncomputable def gv (l : List Record) (s : Int) (k : ByteArray) : Option ByteArray := getV (nw l k s)
theorem pl_get {l : List Record} (h : Run l) (hl : l.length ≤ 1000000) (k : ByteArray) (s : Int) : p_spec_l24Get l k s = some (match gv l s k with
    | some v => (v, true)
    | none => (⟨#[]⟩, false)) := by
  obtain ⟨e, hn⟩ := nw_ok h hl k s
  unfold p_spec_l24Get gv getV
  rw [e, callK_some]
  dsimp only
  generalize nw l k s = n
  by_cases h1 : n.Seq > 0
  · rw [if_pos (by simpa using h1)]
    by_cases h2 : n.Kind = 1
    · rw [if_neg (by simpa using h2), if_pos ⟨h1, h2⟩]
    · rw [if_pos h2, if_neg (fun h => h2 h.2)]
  · rw [if_neg (by simpa using h1), if_neg (fun h => h1 h.1)]
theorem pl_vis {l : List Record} (h : Run l) (hl : l.length ≤ 1000000) (s : Int) : p_spec_l24Visible l ⟨#[]⟩ ⟨#[]⟩ s = some (visOf (gv l s) (keysOf l)) := by
  unfold p_spec_l24Visible
  rw [grd_pos (by omega)]
  refine forK_rule (fun i (v : ByteArray × List Pair) => v.2 ++ visOf (gv l s) (keysG v.1 (l.drop i)) = visOf (gv l s) (keysOf l) ∧ v.2.length ≤ i) (fun i hi v hv nx hnx => ?_) (fun v hv => ?_) _ ⟨by simp [keysOf], by simp⟩
  · obtain ⟨v15, v16⟩ := v
    obtain ⟨g1, g2⟩ := hv
    dsimp only at g1 g2 ⊢
    rw [List.drop_eq_getElem_cons hi, keysG] at g1
    by_cases hk : (l[i].Key.toList == v15.toList) = true
    · rw [if_pos hk] at g1 ⊢
      exact hnx _ ⟨g1, by dsimp only; omega⟩
    · rw [if_neg hk] at g1 ⊢
      rw [if_neg (show ¬ Op.bytesLess l[i].Key.toList (⟨#[]⟩ : ByteArray).toList = true from kl_empty _), if_pos (by simp), pl_get h hl, callK_some]
      unfold visOf at g1
      rw [List.filterMap_cons] at g1
      cases hg : gv l s l[i].Key with
      | none =>
        rw [hg] at g1
        dsimp only [Option.map_none] at g1 ⊢
        rw [if_neg (by decide)]
        exact hnx _ ⟨g1, by dsimp only; omega⟩
      | some x =>
        rw [hg] at g1
        dsimp only [Option.map_some] at g1 ⊢
        rw [if_pos rfl, grd_pos (appOk_of _ _ (by omega))]
        exact hnx _ ⟨by dsimp only; rw [List.append_assoc]; exact g1, by simp; omega⟩
  · obtain ⟨v15, v16⟩ := v
    obtain ⟨g1, g2⟩ := hv
    dsimp only at g1 ⊢
    rw [List.drop_length] at g1
    simp only [keysG, visOf, List.filterMap_nil, List.append_nil] at g1
    rw [g1]; rfl
theorem pl_visAt {l : List Record} (h : Run l) (hl : l.length ≤ 1000000) (s : Int) : p_spec_VisibleAt l s = some (visOf (gv l s) (keysOf l)) := by
  unfold p_spec_VisibleAt
  rw [pl_sRun h hl, callK_some, if_pos rfl, pl_vis h hl, callK_some]
theorem visOf_len (g : ByteArray → Option ByteArray) (ks : List ByteArray) : (visOf g ks).length ≤ ks.length := List.length_filterMap_le _ _
theorem keysG_len : ∀ (l : List Record) (last : ByteArray), (keysG last l).length ≤ l.length
  | [], _ => by simp [keysG]
  | x :: l, last => by
    unfold keysG
    split
    · have := keysG_len l last; simp only [List.length_cons]; omega
    · have := keysG_len l x.Key; simp only [List.length_cons]; omega
theorem pl_sameP (l : List Pair) (h : l.length ≤ 1000000) : p_spec_SamePairs l l = some true := by
  unfold p_spec_SamePairs
  rw [if_neg (by simp), grd_pos (by omega)]
  exact forK_rule (fun _ _ => True) (fun i hi s _ nx hnx => by rw [getK_lt hi, if_pos (by simp)]; exact hnx () trivial) (fun s _ => rfl) () trivial
/-! ### The draw of a run -/
theorem text_ok {b : Int} {s : Sl00Src} (l : List ByteArray) (hl : 0 < l.length) (hb : 0 ≤ b) (h : SrcOk (b + 2) s) : ∃ r s', p_spec_l00Src_text l s = some (r, s') ∧ r ∈ l ∧ SrcOk b s' := by
  obtain ⟨r, s1, e1, ⟨b1, b2, b3⟩, o1⟩ := pick_ok (l.length : Int) hb h
  unfold p_spec_l00Src_text
  have hr : r < (l.length : Int) := by
    rcases Nat.lt_or_ge 1 l.length with h | h
    · exact b2 (by omega)
    · have := b3 (by omega); omega
  rw [e1, callK_some, getK_in b1 hr]
  exact ⟨_, _, rfl, List.getElem_mem _, o1⟩
theorem okRec_mk {k v e : ByteArray} {q kd : Int} (hk : okKey k = true) (hq : 1 ≤ q ∧ q ≤ 1000000) (h : (kd = 1 ∧ (v.size : Int) ≤ 16 ∧ e = ⟨#[]⟩) ∨ (kd = 2 ∧ v = ⟨#[]⟩ ∧ e = ⟨#[]⟩) ∨ (kd = 3 ∧ v = ⟨#[]⟩ ∧ okKey e = true ∧ kl k e)) : okRec ⟨k, q, kd, v, e⟩ = true := by
  unfold okRec
  dsimp only
  rw [hk, inR_iff.mpr hq]
  rcases h with ⟨rfl, h1, rfl⟩ | ⟨rfl, rfl, rfl⟩ | ⟨rfl, rfl, h1, h2⟩
  · rw [if_pos rfl, isE_iff.mpr rfl]; simp [h1]
  · rw [if_neg (by decide), if_pos rfl, isE_iff.mpr rfl]; rfl
  · rw [if_neg (by decide), if_neg (by decide), if_pos rfl, isE_iff.mpr rfl, h1, show Op.bytesLess k.toList e.toList = true from h2]; rfl
theorem draw_ok {b q : Int} {s : Sl00Src} (hb : 0 ≤ b) (hq : 1 ≤ q ∧ q ≤ 1000000) (h : SrcOk (b + 10) s) : ∃ r s', p_spec_l17Draw q s = some (r, s') ∧ r.Seq = q ∧ okRec r = true ∧ SrcOk b s' := by
  unfold p_spec_l17Draw p_spec_l17DrawKey
  obtain ⟨k, s1, e1, m1, o1⟩ := text_ok (b := b + 8) (s := s) ([(⟨#[97]⟩ : ByteArray), (⟨#[98]⟩ : ByteArray), (⟨#[99]⟩ : ByteArray), (⟨#[100]⟩ : ByteArray), (⟨#[101]⟩ : ByteArray), (⟨#[97, 98]⟩ : ByteArray), (⟨#[98, 49]⟩ : ByteArray), (⟨#[107, 101, 121, 56, 98, 121, 116, 101]⟩ : ByteArray), (⟨#[0]⟩ : ByteArray), (⟨#[255, 255]⟩ : ByteArray)] : List ByteArray) (by simp) (by omega) (h.le (by omega))
  rw [e1, callK_some, callK_some]
  have hk : okKey k = true := by
    simp only [List.mem_cons, List.not_mem_nil, or_false] at m1
    rcases m1 with rfl | rfl | rfl | rfl | rfl | rfl | rfl | rfl | rfl | rfl <;> rfl
  obtain ⟨y2, s2, e2, m2, o2⟩ := among_ok (b := b + 6) (s := s1) ([1, 1, 1, 2, 3] : List Int) (by simp) (by omega) (o1.le (by omega))
  dsimp only
  rw [e2, callK_some]
  dsimp only
  by_cases k1 : y2 = 1
  · rw [if_pos k1]
    obtain ⟨v, s3, e3, m3, o3⟩ := text_ok (b := b + 4) (s := s2) ([(⟨#[]⟩ : ByteArray), (⟨#[49]⟩ : ByteArray), (⟨#[116, 119, 111]⟩ : ByteArray), (⟨#[115, 105, 120, 116, 101, 101, 110, 32, 98, 121, 116, 101, 115, 32, 111, 107]⟩ : ByteArray), (⟨#[0]⟩ : ByteArray)] : List ByteArray) (by simp) (by omega) (o2.le (by omega))
    have hv : (v.size : Int) ≤ 16 := by
      simp only [List.mem_cons, List.not_mem_nil, or_false] at m3
      rcases m3 with rfl | rfl | rfl | rfl | rfl <;> decide
    rw [e3, callK_some]
    exact ⟨_, _, rfl, rfl, okRec_mk hk hq (.inl ⟨k1, hv, rfl⟩), o3.le (by omega)⟩
  · rw [if_neg k1]
    by_cases k3 : y2 = 3
    · rw [if_pos k3]
      obtain ⟨x, s3, e3, m3, o3⟩ := text_ok (b := b + 4) (s := s2) ([(⟨#[97]⟩ : ByteArray), (⟨#[98]⟩ : ByteArray), (⟨#[97, 98]⟩ : ByteArray), (⟨#[99]⟩ : ByteArray)] : List ByteArray) (by simp) (by omega) (o2.le (by omega))
      obtain ⟨z, s4, e4, m4, o4⟩ := text_ok (b := b + 2) (s := s3) ([(⟨#[100]⟩ : ByteArray), (⟨#[101]⟩ : ByteArray), (⟨#[98, 49, 0]⟩ : ByteArray), (⟨#[255]⟩ : ByteArray)] : List ByteArray) (by simp) (by omega) (o3.le (by omega))
      rw [e3, callK_some]
      dsimp only
      rw [e4, callK_some]
      dsimp only
      simp only [List.mem_cons, List.not_mem_nil, or_false] at m3 m4
      have hx : okKey x = true := by rcases m3 with rfl | rfl | rfl | rfl <;> rfl
      by_cases hl : Op.bytesLess x.toList z.toList = true
      · rw [if_pos hl]
        refine ⟨_, _, rfl, rfl, okRec_mk hx hq (.inr (.inr ⟨k3, rfl, ?_, hl⟩)), o4.le (by omega)⟩
        rcases m4 with rfl | rfl | rfl | rfl <;> rfl
      · rw [if_neg hl]
        refine ⟨_, _, rfl, rfl, okRec_mk hx hq (.inr (.inr ⟨k3, rfl, rfl, ?_⟩)), o4.le (by omega)⟩
        unfold kl
        rw [toList_data, toList_data]
        rcases m3 with rfl | rfl | rfl | rfl <;> decide
    · rw [if_neg k3]
      have k2 : y2 = 2 := by
        simp only [List.mem_cons, List.not_mem_nil, or_false] at m2
        omega
      exact ⟨_, _, rfl, rfl, okRec_mk hk hq (.inr (.inl ⟨k2, rfl, rfl⟩)), o2.le (by omega)⟩
theorem drawRun_ok {n : Int} {s : Sl00Src} (hn : 0 ≤ n ∧ n ≤ 1000) (h : SrcOk 100000 s) : ∃ l s', p_spec_l17DrawRun n s = some (l, s') ∧ Run l ∧ (l.length : Int) ≤ n ∧ SrcOk 1000 s' := by
  unfold p_spec_l17DrawRun
  obtain ⟨y1, s1, e1, ⟨b1, b1', _⟩, o1⟩ := pick_ok (b := 90000) 3 (by omega) (h.le (by omega))
  have b1' := b1' (by omega)
  have w1 : IntKind.i64.wrap (n + 1) = n + 1 := wrap_sm _ (by omega) (by omega)
  obtain ⟨y2, s2, e2, ⟨b2, b2', b2''⟩, o2⟩ := pick_ok (b := 80000) (n + 1) (by omega) (o1.le (by omega))
  have hy2 : y2 ≤ n := by
    by_cases hc : 1 < n + 1
    · have := b2' hc; omega
    · have := b2'' (by omega); omega
  rw [e1, callK_some, w1, e2, callK_some]
  dsimp only
  obtain ⟨r, e, g1, g2, g3⟩ := iterK_ex (Q := fun (r : List Record × Sl00Src) => Run r.1 ∧ (r.1.length : Int) ≤ n ∧ SrcOk 1000 r.2)
    (f := fun ((v3, v4, v5, v6) : ((List Record) × Int × Int × Sl00Src)) (nx7 : ((List Record) × Int × Int × Sl00Src) → Option (List Record × Sl00Src)) =>
      if v5 > 0 then
        callK (p_spec_l00Src_pick 2 v6) fun y9 =>
        callK (p_spec_l17Draw (IntKind.i64.wrap (v4 + (IntKind.i64.wrap (1 + y9.1)))) y9.2) fun y10 =>
        callK (p_spec_l17Into v3 y10.1) fun y11 =>
        nx7 (y11, (IntKind.i64.wrap (v4 + (IntKind.i64.wrap (1 + y9.1)))), (IntKind.i64.wrap (v5 - 1)), y10.2)
      else
        some (v3, v6))
    (fun d s => s.2.2.1 = d ∧ (d : Int) ≤ n ∧ Run s.1 ∧ (s.1.length : Int) + d ≤ n ∧ (∀ x ∈ s.1, x.Seq ≤ s.2.1) ∧ 0 ≤ s.2.1 ∧ s.2.1 + 2 * d ≤ 2 + 2 * n ∧ SrcOk (1000 + d * 20) s.2.2.2)
    (fun d s hs nx hnx => by
      obtain ⟨v3, v4, v5, v6⟩ := s
      obtain ⟨h1, h2, h3, h4, h5, h6, h7, h8⟩ := hs
      dsimp only at h1 h3 h4 h5 h6 h7 h8 ⊢
      subst h1
      by_cases hd : (d : Int) > 0
      · rw [if_pos hd]
        obtain ⟨a, sa, ea, ⟨ba, ba', _⟩, oa⟩ := pick_ok (b := 1000 + (d : Int) * 20 - 4) 2 (by omega) (h8.le (by omega))
        have ba' := ba' (by omega)
        have wa : IntKind.i64.wrap (1 + a) = 1 + a := wrap_sm _ (by omega) (by omega)
        have wb : IntKind.i64.wrap (v4 + (1 + a)) = v4 + (1 + a) := wrap_sm _ (by omega) (by omega)
        rw [ea, callK_some]
        dsimp only
        rw [wa, wb]
        obtain ⟨c, sc, ec, c1, c2, oc⟩ := draw_ok (b := 1000 + (d : Int) * 20 - 20) (q := v4 + (1 + a)) (by omega) (by omega) (oa.le (by omega))
        rw [ec, callK_some]
        dsimp only
        rw [pl_into _ (by omega), callK_some]
        have w : IntKind.i64.wrap ((d : Int) - 1) = ((d - 1 : Nat) : Int) := by rw [wrap_sm _ (by omega) (by omega)]; omega
        rw [w]
        have hin := into_len_le c v3
        refine hnx (d - 1) (into v3 c, v4 + (1 + a), ((d - 1 : Nat) : Int), sc) (by omega) ⟨rfl, by omega, h3.into c2 (fun x hx => by have := h5 x hx; omega), by dsimp only; omega, fun x hx => ?_, by dsimp only; omega, by dsimp only; omega, oc.le (by omega)⟩
        dsimp only at hx ⊢
        rcases into_mem.mp hx with hx | rfl
        · have := h5 x hx; omega
        · omega
      · rw [if_neg hd]
        exact ⟨_, rfl, h3, by dsimp only; omega, h8.le (by omega)⟩)
    y2.toNat ([], y1, y2, s2) (by unfold NN; omega) ⟨by show y2 = _; omega, by omega, .nil, by simp; omega, by simp, by show 0 ≤ y1; omega, by show y1 + 2 * _ ≤ _; omega, o2.le (by omega)⟩
  exact ⟨r.1, r.2, e, g1, g2, g3⟩

/-! ### Snapshots -/
structure Snap (l : List Int) : Prop where
  inR : ∀ x ∈ l, 0 ≤ x ∧ x ≤ 1000000
  up : l.Pairwise (· < ·)
  len : l.length ≤ 4
theorem adj_up : ∀ {l : List Int}, (∀ i, ∀ (h : i + 1 < l.length), l[i] < l[i + 1]) → l.Pairwise (· < ·)
  | [], _ => .nil
  | [_], _ => by simp
  | x :: y :: l, h => by
    have ih := adj_up (l := y :: l) fun i hi => by have := h (i + 1) (by simpa using hi); simpa using this
    refine List.pairwise_cons.mpr ⟨fun z hz => ?_, ih⟩
    have h0 : x < y := by have := h 0 (by simp); simpa using this
    rcases List.mem_cons.mp hz with rfl | hz
    · exact h0
    · have := (List.pairwise_cons.mp ih).1 z hz; omega
theorem pl_sSnap {l : List Int} (hl : l.length ≤ 1000000) : ∃ b, p_spec_l23Snapshots l = some b ∧ (b = true → Snap l) := by
  unfold p_spec_l23Snapshots
  rw [grd_pos (by omega)]
  refine forK_ex (fun i _ => (∀ j, ∀ (hj : j < l.length), j < i → 0 ≤ l[j] ∧ l[j] ≤ 1000000) ∧ ∀ j, ∀ (hj : j + 1 < l.length), j + 1 < i → l[j] < l[j + 1]) (fun i hi s hs nx hnx => ?_) (fun s hs => ?_) () ⟨fun j hj h => by omega, fun j hj h => by omega⟩
  · obtain ⟨h1, h2⟩ := hs
    by_cases hx : inR l[i] 0 1000000 = true
    · rw [if_pos hx]
      have hx2 := inR_iff.mp hx
      have g1 : ∀ j, ∀ (hj : j < l.length), j < i + 1 → 0 ≤ l[j] ∧ l[j] ≤ 1000000 := fun j hj h => by
        by_cases e : j = i
        · subst e; exact hx2
        · exact h1 j hj (by omega)
      by_cases h0 : (i : Int) > 0
      · have hw : IntKind.i64.wrap ((i : Int) - 1) = ((i - 1 : Nat) : Int) := by rw [wrap_sm _ (by omega) (by omega)]; omega
        rw [if_pos h0, hw, getK_lt (by omega)]
        by_cases hc : l[i - 1] ≥ l[i]
        · rw [if_pos hc]; exact ⟨false, rfl, fun h => by simp at h⟩
        · rw [if_neg hc]
          refine hnx () ⟨g1, fun j hj h => ?_⟩
          by_cases e : j + 1 = i
          · subst e
            simp only [Nat.add_sub_cancel] at hc
            omega
          · exact h2 j hj (by omega)
      · rw [if_neg h0]
        exact hnx () ⟨g1, fun j hj h => by omega⟩
    · rw [if_neg hx]
      exact ⟨false, rfl, fun h => by simp at h⟩
  · refine ⟨_, rfl, fun h => ?_⟩
    simp only [decide_eq_true_eq] at h
    exact ⟨fun x hx => by obtain ⟨j, hj, rfl⟩ := List.mem_iff_getElem.mp hx; exact hs.1 j hj hj, adj_up fun j hj => hs.2 j hj hj, by omega⟩
theorem any_not {α : Type} (p : α → Bool) (l : List α) : (!l.any (fun x => !p x)) = l.all p := by rw [List.not_any_eq_all_not]; simp
theorem pl_within1 (x a b : Int) : p_impl_allWithin_c1 x a b = some (!inR x a b) := by unfold p_impl_allWithin_c1; simp
theorem pl_allW (l : List Int) (a b : Int) (h : l.length ≤ 1000000) : p_impl_allWithin l a b = some (l.all fun x => inR x a b) := by
  unfold p_impl_allWithin p_slices_ContainsFunc_impl_allWithin_c1 p_slices_IndexFunc_impl_allWithin_c1
  rw [grd_pos (by omega), forK_idx (p := fun x => !inR x a b) (fun x => pl_within1 x a b)]
  simp only [callK_some, idxP_any, any_not]
theorem pl_incr {l : List Int} (h : l.Pairwise (· < ·)) (hl : l.length ≤ 1000000) : p_impl_increasing l = some true := by
  unfold p_impl_increasing
  refine iterK_rule (fun (d : Nat) (v : Int) => 1 ≤ v ∧ v + d = l.length + 1) (fun d v hv nx hnx => ?_) l.length 1 (by unfold NN; omega) ⟨by omega, by omega⟩
  obtain ⟨h1, h2⟩ := hv
  by_cases hc : v < (l.length : Int)
  · have hw : IntKind.i64.wrap (v - 1) = v - 1 := wrap_sm _ (by omega) (by omega)
    have hw2 : IntKind.i64.wrap (v + 1) = v + 1 := wrap_sm _ (by omega) (by omega)
    have hlt := List.pairwise_iff_getElem.mp h (v - 1).toNat v.toNat (by omega) (by omega) (by omega)
    rw [if_pos hc, getK_in (by omega) hc, hw, getK_in (by omega) (by omega), if_neg (by omega), hw2]
    exact hnx (d - 1) _ (by omega) ⟨by omega, by omega⟩
  · rw [if_neg hc]
theorem pl_iSnap {l : List Int} (h : Snap l) : p_impl_snapshotsOk l = some true := by
  unfold p_impl_snapshotsOk
  have hl := h.len
  rw [if_pos (by omega), pl_incr h.up (by omega), callK_some, if_pos rfl, pl_allW _ _ _ (by omega), callK_some]
  congr 1
  exact List.all_eq_true.mpr fun x hx => inR_iff.mpr (h.inR x hx)
theorem drawSnap_ok {s : Sl00Src} (h : SrcOk 100000 s) : ∃ r, p_spec_l23DrawSnapshots s = some r ∧ r.1.length ≤ 100 := by
  unfold p_spec_l23DrawSnapshots
  obtain ⟨y1, s1, e1, ⟨b1, b1', _⟩, o1⟩ := pick_ok (b := 90000) 3 (by omega) (h.le (by omega))
  have b1' := b1' (by omega)
  obtain ⟨y2, s2, e2, ⟨b2, b2', _⟩, o2⟩ := pick_ok (b := 80000) 4 (by omega) (o1.le (by omega))
  have b2' := b2' (by omega)
  rw [e1, callK_some, e2, callK_some]
  dsimp only
  refine iterK_ex (fun (d : Nat) (s : Int × Int × Sl00Src × List Int) => s.2.1 = d ∧ d ≤ 3 ∧ SrcOk (1000 + d * 10) s.2.2.1 ∧ s.2.2.2.length + d ≤ 3) (fun d s hs nx hnx => ?_) y2.toNat (y1, y2, s2, []) (by unfold NN; omega) ⟨by show y2 = _; omega, by omega, o2.le (by omega), by simp; omega⟩
  obtain ⟨v3, v4, v5, v6⟩ := s
  obtain ⟨h1, h2, h3, h4⟩ := hs
  dsimp only at h1 h3 h4 ⊢
  subst h1
  by_cases hd : (d : Int) > 0
  · rw [if_pos hd, grd_pos (appOk_of _ _ (by omega))]
    obtain ⟨a, sa, ea, _, oa⟩ := pick_ok (b := 1000 + (d : Int) * 10 - 10) 6 (by omega) (h3.le (by omega))
    rw [ea, callK_some]
    dsimp only
    have w : IntKind.i64.wrap ((d : Int) - 1) = ((d - 1 : Nat) : Int) := by rw [wrap_sm _ (by omega) (by omega)]; omega
    rw [w]
    exact hnx (d - 1) _ (by omega) (by exact ⟨rfl, by omega, oa.le (by omega), by simp; omega⟩)
  · rw [if_neg hd]
    obtain ⟨q, sq, eq, oq⟩ := one_ok (b := 900) 12 (by omega) (h3.le (by omega))
    rw [eq, callK_some]
    dsimp only
    split
    · obtain ⟨z, sz, ez, _, oz⟩ := among_ok (b := 800) (s := sq) ([(-1), 3, 1000000, 1000001] : List Int) (by simp) (by omega) (oq.le (by omega))
      rw [ez, callK_some, grd_pos (appOk_of _ _ (by omega))]
      exact ⟨_, rfl, by simp; omega⟩
    · exact ⟨_, rfl, by dsimp only; omega⟩
theorem snaps_ok {code : List Int} (h : ∀ x ∈ code, 0 ≤ x ∧ x ≤ 255) (hl : code.length ≤ 1048576) : ∃ l, p_spec_A8Snapshots code = some l ∧ Snap l := by
  unfold p_spec_A8Snapshots
  obtain ⟨s, e0, o0⟩ := from_ok h hl
  obtain ⟨r, e1, l1⟩ := drawSnap_ok (o0.le (by omega))
  obtain ⟨b, e2, h2⟩ := pl_sSnap (l := r.1) (by omega)
  rw [e0, callK_some, e1, callK_some, e2, callK_some]
  cases b
  · rw [if_neg (by decide)]
    exact ⟨_, rfl, fun x hx => by simp at hx, .nil, by simp⟩
  · rw [if_pos rfl]
    exact ⟨_, rfl, h2 rfl⟩

theorem a8At_ok (code : List Int) (i n : Int) (h : code.length ≤ 1048576) : ∃ r, p_laws_a8At code i n = some r := by
  unfold p_laws_a8At
  by_cases hn : n ≤ 1
  · rw [if_pos hn]; exact ⟨_, rfl⟩
  · rw [if_neg hn, grd_pos (by omega)]
    obtain ⟨r, e, _⟩ := forK_ex (l := code) (f := fun (i6 : Nat) x9 (v7 : Int) (nx8 : Int → Option Int) => nx8 (Int.tmod (IntKind.i64.wrap ((IntKind.i64.wrap (v7 * 31)) + (IntKind.i64.wrap x9))) 1000003)) (k := fun (v7 : Int) => grd (n ≠ 0) <| some (Int.tmod v7 n)) (Q := fun _ => True)
      (fun _ _ => True) (fun i hi s _ nx hnx => hnx _ trivial) (fun s _ => by rw [grd_pos (by omega)]; exact ⟨_, rfl, trivial⟩) (IntKind.i64.wrap ((IntKind.i64.wrap (i * 7)) + 3)) trivial
    exact ⟨r, e⟩
theorem u8_in (n : Int) : 0 ≤ IntKind.u8.wrap n ∧ IntKind.u8.wrap n ≤ 255 := by unfold IntKind.wrap; simp [IntKind.signed, IntKind.bits]; omega
theorem mix_ok {code : List Int} (i : Int) (h : ∀ x ∈ code, 0 ≤ x ∧ x ≤ 255) (hl : code.length ≤ 1000000) : ∃ r, p_laws_a8Mix code i = some r ∧ (∀ x ∈ r, 0 ≤ x ∧ x ≤ 255) ∧ r.length = code.length + 2 := by
  unfold p_laws_a8Mix
  obtain ⟨y, e⟩ := a8At_ok code i 256 (by omega)
  rw [e, callK_some, grd_pos (appOk_of _ _ (by omega))]
  refine ⟨_, rfl, fun x hx => ?_, by simp⟩
  simp only [List.cons_append, List.nil_append, List.mem_cons] at hx
  rcases hx with rfl | rfl | hx
  · exact u8_in _
  · exact u8_in _
  · exact h x hx
theorem a8Run_ok {code : List Int} {n : Int} (hn : 0 ≤ n ∧ n ≤ 1000) (h : ∀ x ∈ code, 0 ≤ x ∧ x ≤ 255) (hl : code.length ≤ 1048576) : ∃ l, p_spec_A8Run code n = some l ∧ Run l ∧ (l.length : Int) ≤ n := by
  unfold p_spec_A8Run
  obtain ⟨s, e0, o0⟩ := from_ok h hl
  obtain ⟨l, s', e1, h1, h2, _⟩ := drawRun_ok hn (o0.le (by omega))
  rw [e0, callK_some, e1, callK_some]
  exact ⟨_, rfl, h1, h2⟩

/-! ### What is hidden -/
theorem pl_hid {l : List Record} (hl : l.length ≤ 1000000) {p : Record} {sn : List Int} (hs : sn.length ≤ 1000000) (hpos : ∀ r ∈ l, 0 < r.Seq) : ∃ b, p_impl_hidden l p sn = some b ∧ (b = true → ∃ r ∈ l, r.Seq > p.Seq ∧ aff r p.Key = true ∧ ∀ s ∈ sn, ¬ (p.Seq ≤ s ∧ s < r.Seq)) := by
  unfold p_impl_hidden
  rw [grd_pos (by omega)]
  refine forK_ex (fun i (v : Int) => v = 0 ∨ ∃ r ∈ l, r.Seq > p.Seq ∧ aff r p.Key = true ∧ r.Seq = v) (fun i hi v hv nx hnx => ?_) (fun v hv => ?_) 0 (.inl rfl)
  · by_cases h1 : l[i].Seq > p.Seq
    · rw [if_pos h1, pl_iAff, callK_some]
      by_cases h2 : aff l[i] p.Key = true
      · rw [if_pos h2]
        have new := hnx l[i].Seq (.inr ⟨l[i], List.getElem_mem hi, h1, h2, rfl⟩)
        by_cases h3 : v = 0
        · rw [if_pos h3]; exact new
        · rw [if_neg h3]
          split
          · exact new
          · exact hnx v hv
      · rw [if_neg h2]; exact hnx v hv
    · rw [if_neg h1]; exact hnx v hv
  · by_cases h0 : v > 0
    · rw [if_pos h0]
      obtain ⟨r, hr, h1, h2, h3⟩ := hv.resolve_left (by omega)
      have hc : p_slices_ContainsFunc_impl_hidden_c1 sn p v = some (sn.any fun s => decide (p.Seq ≤ s) && decide (s < v)) := by
        unfold p_slices_ContainsFunc_impl_hidden_c1 p_slices_IndexFunc_impl_hidden_c1
        rw [grd_pos (by omega), forK_idx (f := fun x => p_impl_hidden_c1 x p v) (p := fun s => decide (p.Seq ≤ s) && decide (s < v)) (fun x => by
          unfold p_impl_hidden_c1
          by_cases h : p.Seq ≤ x
          · rw [if_pos h]; simp [h]
          · rw [if_neg h]; simp [h])]
        simp only [callK_some, idxP_any]
      rw [hc, callK_some]
      refine ⟨_, rfl, fun hb => ⟨r, hr, h1, h2, fun s hs2 hcon => ?_⟩⟩
      simp only [Bool.not_eq_true', List.any_eq_false, Bool.and_eq_true, decide_eq_true_eq, not_and] at hb
      rw [h3] at hcon
      exact hb s hs2 hcon.1 hcon.2
    · rw [if_neg h0]
      exact ⟨false, rfl, fun h => by simp at h⟩
noncomputable def hidB (l : List Record) (sn : List Int) (p : Record) : Bool := (p_impl_hidden l p sn).getD false
theorem hidB_ok {l : List Record} (hl : l.length ≤ 1000000) {p : Record} {sn : List Int} (hs : sn.length ≤ 1000000) (hpos : ∀ r ∈ l, 0 < r.Seq) : p_impl_hidden l p sn = some (hidB l sn p) ∧ (hidB l sn p = true → ∃ r ∈ l, r.Seq > p.Seq ∧ aff r p.Key = true ∧ ∀ s ∈ sn, ¬ (p.Seq ≤ s ∧ s < r.Seq)) := by
  obtain ⟨b, e, h⟩ := pl_hid hl (p := p) hs hpos
  have : hidB l sn p = b := by unfold hidB; rw [e]; rfl
  rw [this]
  exact ⟨e, h⟩
/-- The point records that a compaction drops. -/
noncomputable def dr1 (l : List Record) (sn : List Int) (r : Record) : Bool := !(r.Kind == 3) && hidB l sn r
noncomputable def kp1 (l : List Record) (sn : List Int) : List Record := l.filter fun r => !dr1 l sn r
def puts (l : List Record) : List Record := l.filter fun r => !(r.Kind != 1)
def dr3 (ps : List Record) (r : Record) : Bool := r.Kind != 1 && !(ps.any fun p => decide (p.Seq < r.Seq) && aff r p.Key)
noncomputable def kp3 (l : List Record) (sn : List Int) : List Record := (kp1 l sn).filter fun r => !dr3 (puts (kp1 l sn)) r
theorem pl_drop {l : List Record} (h : Run l) (hl : l.length ≤ 100000) {sn : List Int} (hs : Snap sn) (b : Bool) : p_impl_DropHidden l sn b = some (if b = true then kp3 l sn else kp1 l sn) := by
  have hsl := hs.len
  unfold p_impl_DropHidden
  rw [pl_iRun h (by omega), callK_some, if_pos rfl, pl_iSnap hs, callK_some, if_pos rfl]
  unfold p_impl_dropHidden
  rw [grd_pos (appOk_of _ _ (by omega))]
  have d1 := delF_ok zR (f := fun x => p_impl_dropHidden_c1 x l sn) (p := dr1 l sn) l (by omega) (fun x hx => by
    unfold p_impl_dropHidden_c1 p_impl_isRange dr1
    rw [callK_some, (hidB_ok (by omega) (p := x) (by omega) (fun r hr => by have := okRec_seq (h.ok r hr); omega)).1]
    cases x.Kind == 3 <;> rfl)
  rw [show p_slices_DeleteFunc_impl_dropHidden_c1 l l sn = some (kp1 l sn) from d1, callK_some]
  have hk1 : (kp1 l sn).length ≤ l.length := List.length_filter_le _ _
  cases b
  · rw [if_neg (by decide), callK_some]; rfl
  · rw [if_pos rfl, grd_pos (appOk_of _ _ (by omega))]
    have d2 := delF_ok zR (f := fun x => p_impl_dropHidden_c2 x) (p := fun r => r.Kind != 1) (kp1 l sn) (by omega) (fun x hx => rfl)
    rw [show p_slices_DeleteFunc_impl_dropHidden_c2 (kp1 l sn) = some (puts (kp1 l sn)) from d2, callK_some]
    have hpl : (puts (kp1 l sn)).length ≤ (kp1 l sn).length := List.length_filter_le _ _
    have d3 := delF_ok zR (f := fun x => p_impl_dropHidden_c3 x (puts (kp1 l sn))) (p := dr3 (puts (kp1 l sn))) (kp1 l sn) (by omega) (fun x hx => by
      unfold p_impl_dropHidden_c3 dr3
      by_cases k : x.Kind = 1
      · rw [if_neg (by simpa using k)]; simp [k]
      · rw [if_pos k]
        have hc : p_slices_ContainsFunc_impl_dropHidden_c3_c1 (puts (kp1 l sn)) x = some ((puts (kp1 l sn)).any fun p => decide (p.Seq < x.Seq) && aff x p.Key) := by
          unfold p_slices_ContainsFunc_impl_dropHidden_c3_c1 p_slices_IndexFunc_impl_dropHidden_c3_c1
          rw [grd_pos (by omega), forK_idx (f := fun y => p_impl_dropHidden_c3_c1 y x) (p := fun p => decide (p.Seq < x.Seq) && aff x p.Key) (fun y => by
            unfold p_impl_dropHidden_c3_c1
            by_cases h : y.Seq < x.Seq
            · rw [if_pos h, pl_iAff, callK_some]; simp [h]
            · rw [if_neg h]; simp [h])]
          simp only [callK_some, idxP_any]
        rw [hc, callK_some]
        have hk : (x.Kind != 1) = true := by simpa using k
        rw [hk]; rfl)
    rw [show p_slices_DeleteFunc_impl_dropHidden_c3 (kp1 l sn) (puts (kp1 l sn)) = some (kp3 l sn) from d3, callK_some, callK_some]; rfl
/-! ### What stays visible -/
/-- A newest record is not dropped. -/
theorem kept_new {all high : List Record} (h : Run all) (hsub : ∀ x ∈ high, x ∈ all) (hlen : high.length ≤ 1000000) {sn : List Int} (hsl : sn.length ≤ 1000000) {k : ByteArray} {s : Int} (hs : s ∈ sn ∨ s = 1000000) {n : Record} (hn : New all k s n) (hm : n ∈ high) (ha : aff n k = true) (hle : n.Seq ≤ s) : dr1 high sn n = false := by
  cases hd : dr1 high sn n
  · rfl
  · exfalso
    unfold dr1 at hd
    simp only [Bool.and_eq_true, Bool.not_eq_true', beq_eq_false_iff_ne, ne_eq] at hd
    obtain ⟨r, hr, h1, h2, h3⟩ := (hidB_ok hlen (p := n) hsl (fun r hr => by have := okRec_seq (h.ok r (hsub r hr)); omega)).2 hd.2
    rw [aff_key hd.1 ha] at h2
    have hrs : r.Seq ≤ s := by
      rcases hs with hs | hs
      · have := h3 s hs; omega
      · have := okRec_seq (h.ok r (hsub r hr)); omega
    have := hn.top r (hsub r hr) h2 hrs
    omega
/-- Of fewer records that hold the newest it is the newest. -/
theorem New.sub {all l : List Record} {k : ByteArray} {s : Int} {n : Record} (hn : New all k s n) (hsub : ∀ x ∈ l, x ∈ all) (hm : n ∈ all → n ∈ l) : New l k s n :=
  ⟨hn.has.imp id fun ⟨h1, h2⟩ => ⟨hm h1, h2⟩, fun x hx => hn.top x (hsub x hx)⟩
theorem gv_eq {l m : List Record} (hl : Run l) (hm : Run m) (h1 : l.length ≤ 1000000) (h2 : m.length ≤ 1000000) {s : Int} {k : ByteArray} (h : ∃ a b, New l k s a ∧ New m k s b ∧ getV a = getV b) : gv l s k = gv m s k := by
  obtain ⟨a, b, ha, hb, e⟩ := h
  unfold gv
  rw [(nw_ok hl h1 k s).2.uniq hl ha, (nw_ok hm h2 k s).2.uniq hm hb, e]
theorem getV_key {n : Record} {v : ByteArray} (h : getV n = some v) : 0 < n.Seq ∧ n.Kind = 1 := by
  unfold getV at h
  split at h
  · assumption
  · simp at h
theorem gv_key {l : List Record} (h : Run l) (hl : l.length ≤ 1000000) {s : Int} {k : ByteArray} (hg : gv l s k ≠ none) : ∃ x ∈ l, x.Key = k := by
  obtain ⟨v, hv⟩ := Option.ne_none_iff_exists'.mp hg
  unfold gv at hv
  obtain ⟨g1, g2⟩ := getV_key hv
  rcases (nw_ok h hl k s).2.has with e | ⟨e1, e2, _⟩
  · rw [e] at g1; simp [zR] at g1
  · exact ⟨_, e1, aff_key (by omega) e2⟩
theorem vis_same {A B : List Record} (hA : Run A) (hB : Run B) (h1 : A.length ≤ 1000000) (h2 : B.length ≤ 1000000) {s : Int} (h : ∀ k, gv B s k = gv A s k) : visOf (gv B s) (keysOf B) = visOf (gv A s) (keysOf A) := by
  have e : gv B s = gv A s := funext h
  rw [e]
  refine vis_eq hB hA fun k hk => ⟨?_, gv_key hA h1 hk⟩
  rw [← h k] at hk
  exact gv_key hB h2 hk
theorem pl_merge2 {a b : List Record} (ha : Run a) (hb : Run b) (hl : a.length + b.length ≤ 100000) (hu : Run (([a, b] : List (List Record)).flatten.foldl into [])) : p_spec_MergeRecords ([a, b] : List (List Record)) = some (([a, b] : List (List Record)).flatten.foldl into []) := by
  unfold p_spec_MergeRecords
  rw [grd_pos (by simp)]
  refine forK_rule (fun _ _ => True) (fun i hi s _ nx hnx => ?_) (fun s _ => ?_) () trivial
  · have hr : Run ([a, b] : List (List Record))[i] ∧ (([a, b] : List (List Record))[i]).length ≤ 100000 := by
      match i, hi with
      | 0, _ => exact ⟨ha, by show a.length ≤ _; omega⟩
      | 1, _ => exact ⟨hb, by show b.length ≤ _; omega⟩
    rw [pl_sRun hr.1 (by omega), callK_some, if_pos rfl]
    exact hnx () trivial
  · have hm : p_spec_l24Merge ([a, b] : List (List Record)) = some (([a, b] : List (List Record)).flatten.foldl into []) := by
      have one : ∀ (x v : List Record) (nx : List Record → Option (List Record)), v.length + x.length ≤ 100000 → (grd ((x.length : Int) < 4611686018427387904) <| forI (x.length : Int) (fun (i20 : Nat) (v21 : List Record) (nx22 : (List Record) → Option (List Record)) =>
          getK x (i20 : Int) fun x23 => callK (p_spec_l17Into v21 x23) fun y24 => nx22 y24) v fun (v21 : List Record) => nx v21) = nx (x.foldl into v) := by
        intro x v nx hlen
        rw [grd_pos (by omega)]
        refine forI_rule (fun i s => s = (x.take i).foldl into v) (fun i hi s hs nx2 hnx2 => ?_) (fun s hs => by rw [hs, Int.toNat_natCast, List.take_length]) _ (by simp)
        have hix : i < x.length := by omega
        have hle := fold_into_le (x.take i) v
        rw [List.length_take] at hle
        subst hs
        rw [getK_lt hix, pl_into _ (by omega), callK_some]
        exact hnx2 _ (by rw [List.take_succ_eq_append_getElem hix, List.foldl_append]; rfl)
      unfold p_spec_l24Merge forK
      rw [grd_pos (by simp)]
      simp only [forGo_cons, forGo_nil]
      have hle := fold_into_le a []
      simp only [List.length_nil] at hle
      rw [one a [] _ (by simp; omega), one b _ _ (by omega)]
      simp [List.foldl_append]
    have hle := fold_into_le ([a, b] : List (List Record)).flatten []
    simp only [List.flatten_cons, List.flatten_nil, List.append_nil, List.length_append, List.length_nil] at hle
    rw [hm, callK_some, pl_sRun hu (by simp only [List.flatten_cons, List.flatten_nil, List.append_nil]; omega), callK_some, if_pos rfl]
theorem pl_law (code : List Int) (hk : okL u8r code) : p_laws_FnDropHidden code = some true := by
  unfold p_laws_FnDropHidden
  by_cases hl : (code.length : Int) > 400
  · rw [if_pos hl]
  rw [if_neg hl]
  obtain ⟨all, e1, hall, hlen⟩ := a8Run_ok (n := 14) (by omega) hk.2 (by omega)
  obtain ⟨mx, e2, hmx, hml⟩ := mix_ok 9 hk.2 (by omega)
  obtain ⟨sn, e3, hsn⟩ := snaps_ok hmx (by omega)
  obtain ⟨cut, e4⟩ := a8At_ok code 18 12 (by omega)
  have hsl := hsn.len
  rw [e1, callK_some, e2, callK_some, e3, callK_some, e4, callK_some, grd_pos (by omega)]
  refine forK_rule (fun i (v : List Record × List Record) => v = ((all.take i).filter (fun r => !decide (r.Seq > cut)), (all.take i).filter fun r => decide (r.Seq > cut))) (fun i hi v hv nx hnx => ?_) (fun v hv => ?_) _ (by simp)
  · subst hv
    have h1 := List.length_filter_le (fun r : Record => !decide (r.Seq > cut)) (all.take i)
    have h2 := List.length_filter_le (fun r : Record => decide (r.Seq > cut)) (all.take i)
    rw [List.length_take] at h1 h2
    have ht := List.take_succ_eq_append_getElem hi
    dsimp only
    by_cases hc : all[i].Seq > cut
    · rw [if_pos hc, grd_pos (appOk_of _ _ (by omega))]
      exact hnx _ (by rw [ht, List.filter_append, List.filter_append]; simp [hc])
    · rw [if_neg hc, grd_pos (appOk_of _ _ (by omega))]
      exact hnx _ (by rw [ht, List.filter_append, List.filter_append]; simp [hc])
  · rw [List.take_length] at hv
    subst hv
    dsimp only
    generalize hlo : all.filter (fun r => !decide (r.Seq > cut)) = low
    generalize hhi : all.filter (fun r => decide (r.Seq > cut)) = high
    have hlow : Run low := by rw [← hlo]; exact hall.filter _
    have hhigh : Run high := by rw [← hhi]; exact hall.filter _
    have mlow : ∀ x, x ∈ low ↔ x ∈ all ∧ ¬ x.Seq > cut := fun x => by rw [← hlo, List.mem_filter]; simp
    have mhigh : ∀ x, x ∈ high ↔ x ∈ all ∧ x.Seq > cut := fun x => by rw [← hhi, List.mem_filter]; simp
    have llow : low.length ≤ all.length := by rw [← hlo]; exact List.length_filter_le _ _
    have lhigh : high.length ≤ all.length := by rw [← hhi]; exact List.length_filter_le _ _
    have hkept : Run (kp1 high sn) := hhigh.filter _
    have hk1 : Run (kp1 all sn) := hall.filter _
    have hbare : Run (kp3 all sn) := hk1.filter _
    have lkept : (kp1 high sn).length ≤ high.length := List.length_filter_le _ _
    have lk1 : (kp1 all sn).length ≤ all.length := List.length_filter_le _ _
    have lbare : (kp3 all sn).length ≤ (kp1 all sn).length := List.length_filter_le _ _
    have mk : ∀ x, x ∈ kp1 high sn ↔ x ∈ high ∧ dr1 high sn x = false := fun x => by unfold kp1; rw [List.mem_filter]; simp
    have mk1 : ∀ x, x ∈ kp1 all sn ↔ x ∈ all ∧ dr1 all sn x = false := fun x => by unfold kp1; rw [List.mem_filter]; simp
    have mp : ∀ x, x ∈ puts (kp1 all sn) ↔ x ∈ kp1 all sn ∧ x.Kind = 1 := fun x => by unfold puts; rw [List.mem_filter]; simp
    have mb : ∀ x, x ∈ kp3 all sn ↔ x ∈ kp1 all sn ∧ dr3 (puts (kp1 all sn)) x = false := fun x => by unfold kp3; rw [List.mem_filter]; simp
    -- the merged run
    have hflat : ([kp1 high sn, low] : List (List Record)).flatten = kp1 high sn ++ low := by simp
    obtain ⟨w1, w2, w3⟩ := fold_into (kp1 high sn ++ low) [] .nil (fun x hx => by simp at hx) (List.pairwise_append.mpr ⟨hkept.ne, hlow.ne, fun a ha b hb e => by
      subst e
      exact ((mlow a).mp hb).2 ((mhigh a).mp ((mk a).mp ha).1).2⟩)
    generalize hW : (kp1 high sn ++ low).foldl into [] = W at w1 w2 w3
    have msub : ∀ x ∈ W, x ∈ all := fun x hx => by
      rcases (w2 x).mp hx with h | h
      · simp at h
      · rcases List.mem_append.mp h with h | h
        · exact ((mhigh x).mp ((mk x).mp h).1).1
        · exact ((mlow x).mp h).1
    have hWr : Run W := ⟨fun r hr => hall.ok r (msub r hr), w1, fun a ha b hb => hall.inj a (msub a ha) b (msub b hb)⟩
    rw [List.length_append, List.length_nil, Nat.zero_add] at w3
    rw [pl_drop hhigh (by omega) hsn, callK_some, if_neg (by decide)]
    have hmerge := pl_merge2 hkept hlow (by omega) (by rw [hflat, hW]; exact hWr)
    rw [hflat, hW] at hmerge
    rw [hmerge, callK_some, pl_drop hall (by omega) hsn, callK_some, if_pos rfl, pl_iRun hkept (by omega), callK_some, if_pos rfl, pl_iRun hbare (by omega), callK_some, if_pos rfl, wrap_sm _ (by omega) (by omega), if_neg (by omega),
      grd_pos (appOk_of _ _ (by omega)), grd_pos (by simp; omega)]
    refine forK_rule (fun _ _ => True) (fun i hi s _ nx hnx => ?_) (fun s _ => rfl) () trivial
    have hsv : (([1000000] : List Int) ++ sn)[i] ∈ sn ∨ (([1000000] : List Int) ++ sn)[i] = 1000000 := by
      have := List.getElem_mem hi
      simp only [List.cons_append, List.nil_append, List.mem_cons] at this
      exact this.symm
    generalize (([1000000] : List Int) ++ sn)[i] = s at hsv
    have eW : ∀ k, gv W s k = gv all s k := fun k => by
      have hn := (nw_ok hall (by omega) k s).2
      refine gv_eq hWr hall (by omega) (by omega) ⟨_, _, hn.sub msub fun hm => ?_, hn, rfl⟩
      refine (w2 _).mpr (.inr (List.mem_append.mpr ?_))
      rcases hn.has with e0 | ⟨_, ha, hle⟩
      · have := okRec_seq (hall.ok _ hm); rw [e0] at this; simp [zR] at this
      · by_cases hc : (nw all k s).Seq > cut
        · have hh := (mhigh _).mpr ⟨hm, hc⟩
          exact .inl ((mk _).mpr ⟨hh, kept_new hall (fun x hx => ((mhigh x).mp hx).1) (by omega) (by omega) hsv hn hh ha hle⟩)
        · exact .inr ((mlow _).mpr ⟨hm, hc⟩)
    have eB : ∀ k, gv (kp3 all sn) s k = gv all s k := fun k => by
      have hn := (nw_ok hall (by omega) k s).2
      have hn' := (nw_ok hbare (by omega) k s).2
      have bsub : ∀ x ∈ kp3 all sn, x ∈ all := fun x hx => ((mk1 x).mp ((mb x).mp hx).1).1
      rcases hn.has with e0 | ⟨hm, ha, hle⟩
      · exact gv_eq hbare hall (by omega) (by omega) ⟨_, _, hn.sub bsub fun hm => by have := okRec_seq (hall.ok _ hm); rw [e0] at this; simp [zR] at this, hn, rfl⟩
      · have hk1m : nw all k s ∈ kp1 all sn := (mk1 _).mpr ⟨hm, kept_new hall (fun x hx => hx) (by omega) (by omega) hsv hn hm ha hle⟩
        cases hd : dr3 (puts (kp1 all sn)) (nw all k s)
        · exact gv_eq hbare hall (by omega) (by omega) ⟨_, _, hn.sub bsub fun _ => (mb _).mpr ⟨hk1m, hd⟩, hn, rfl⟩
        · refine gv_eq hbare hall (by omega) (by omega) ⟨_, _, hn', hn, ?_⟩
          unfold dr3 at hd
          simp only [Bool.and_eq_true, bne_iff_ne, ne_eq, Bool.not_eq_true', List.any_eq_false, decide_eq_true_eq, not_and] at hd
          have e1 : getV (nw all k s) = none := by unfold getV; rw [if_neg fun h => hd.1 h.2]
          rw [e1]
          unfold getV
          rw [if_neg]
          rintro ⟨g1, g2⟩
          rcases hn'.has with e0 | ⟨b1, b2, b3⟩
          · rw [e0] at g1; simp [zR] at g1
          · have hkk := aff_key (by omega) b2
            have hp := (mp _).mpr ⟨((mb _).mp b1).1, g2⟩
            have htop := hn.top _ (bsub _ b1) b2 b3
            have hne : (nw (kp3 all sn) k s).Seq ≠ (nw all k s).Seq := fun e => by
              have := hall.inj _ (bsub _ b1) _ hm e
              rw [this] at g2
              exact hd.1 g2
            have := hd.2 _ hp (by omega)
            rw [hkk] at this
            exact this ha
    have vW := vis_same hall hWr (by omega) (by omega) eW
    have vB := vis_same hall hbare (by omega) (by omega) eB
    have lv : (visOf (gv all s) (keysOf all)).length ≤ 1000000 := by
      have h1 := visOf_len (gv all s) (keysOf all)
      have h2 := keysG_len all ⟨#[]⟩
      unfold keysOf at h1 ⊢
      omega
    rw [pl_visAt hall (by omega), callK_some, pl_visAt hWr (by omega), callK_some, vW, pl_sameP _ lv, callK_some, if_pos rfl, pl_visAt hbare (by omega), callK_some, vB, pl_sameP _ lv, callK_some, if_pos rfl]
    exact hnx () trivial
theorem f_law (code : List Int) (hk : okL u8r code) : callL E 3 [.d (.arr (code.map rU))] [] = some (BO true, []) := L_laws_FnDropHidden code (pl_law code hk)

end Go.Proofs.Ytphcdalhdfbamaa.T01

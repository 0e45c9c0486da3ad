/- FnSplit: what its functions come to, and the row; conditions: none. -/
import Derived.Test.YtphcdalhdfbamaaT02
import Derived.Test.YtphcdalhdfbamaaEz
import Derived.Test.YtphcdalhdfbamaaRows
import Derived.WalkKit
import Derived.ProofKit
import Derived.OpenShut
import Derived.ShutString
import Derived.ChangeOld
import Derived.Below
import Derived.SizedLaws
namespace Go.Proofs.Ytphcdalhdfbamaa.T02
open Go.Proofs.YtphcdalhdfbamaaE
set_option maxRecDepth 100000
set_option linter.unusedVariables false
set_option linter.unusedSimpArgs false

noncomputable def p_spec_l00In (a_0 : Int) (a_1 : Int) (a_2 : Int) : Option Bool :=
  if a_0 ≥ a_1 then
    some (decide (a_0 ≤ a_2))
  else
    some false

set_option maxHeartbeats 4000000 in
theorem L_spec_l00In (a_0 : Int) (a_1 : Int) (a_2 : Int) {r : Bool} (h : p_spec_l00In a_0 a_1 a_2 = some r) : callL E 162 [IN a_0, IN a_1, IN a_2] ([] : Fo) = some (BO r, ([] : Fo)) := by
  unfold p_spec_l00In at h
  refine callW (fu := Try.f162) rfl rfl rfl NN ?_
  intro lp cl hlp hcl
  conv => lhs; whnf
  cases hb1 : (decide (a_0 ≥ a_1))
  · replace h := ifF h (decF hb1)
    conv => lhs; whnf
    try (rw [hb1]; conv => lhs; whnf)
    try (rw [hb1]; conv => lhs; whnf)
    try (rw [hb1]; conv => lhs; whnf)
    obtain rfl := Option.some.inj h
    show _ = _
    kernel_rfl
  · replace h := ifT h (decT hb1)
    conv => lhs; whnf
    try (rw [hb1]; conv => lhs; whnf)
    try (rw [hb1]; conv => lhs; whnf)
    try (rw [hb1]; conv => lhs; whnf)
    obtain rfl := Option.some.inj h
    show _ = _
    kernel_rfl
theorem pl_l00In (n lo hi : Int) : p_spec_l00In n lo hi = some (inR n lo hi) := by
  unfold p_spec_l00In inR
  split
  · rename_i h; simp [h]
  · rename_i h; simp [h]


noncomputable def p_impl_within (a_0 : Int) (a_1 : Int) (a_2 : Int) : Option Bool :=
  if a_0 ≥ a_1 then
    some (decide (a_0 ≤ a_2))
  else
    some false

set_option maxHeartbeats 4000000 in
theorem L_impl_within (a_0 : Int) (a_1 : Int) (a_2 : Int) {r : Bool} (h : p_impl_within a_0 a_1 a_2 = some r) : callL E 173 [IN a_0, IN a_1, IN a_2] ([] : Fo) = some (BO r, ([] : Fo)) := by
  unfold p_impl_within at h
  refine callW (fu := Try.f173) rfl rfl rfl NN ?_
  intro lp cl hlp hcl
  conv => lhs; whnf
  cases hb1 : (decide (a_0 ≥ a_1))
  · replace h := ifF h (decF hb1)
    conv => lhs; whnf
    try (rw [hb1]; conv => lhs; whnf)
    try (rw [hb1]; conv => lhs; whnf)
    try (rw [hb1]; conv => lhs; whnf)
    obtain rfl := Option.some.inj h
    show _ = _
    kernel_rfl
  · replace h := ifT h (decT hb1)
    conv => lhs; whnf
    try (rw [hb1]; conv => lhs; whnf)
    try (rw [hb1]; conv => lhs; whnf)
    try (rw [hb1]; conv => lhs; whnf)
    obtain rfl := Option.some.inj h
    show _ = _
    kernel_rfl
theorem pl_within (n lo hi : Int) : p_impl_within n lo hi = some (inR n lo hi) := by
  unfold p_impl_within inR
  split
  · rename_i h; simp [h]
  · rename_i h; simp [h]



structure Sl00Src where
  Code : List Int
  At : Int
  Seed : Int
def rSl00Src (x : Sl00Src) : List D := [.arr (x.Code.map rU), dI x.At, .lit (.int .u64 x.Seed)]
theorem rSl00Src_len : ∀ x, (rSl00Src x).length = 3 := fun _ => rfl

noncomputable def p_spec_l00From (a_0 : List Int) : Option Sl00Src :=
  some (⟨a_0, 0, 0⟩ : Sl00Src)

set_option maxHeartbeats 4000000 in
theorem L_spec_l00From (a_0 : List Int) {r : Sl00Src} (h : p_spec_l00From a_0 = some r) : callL E 81 [.d (.arr (a_0.map rU))] ([] : Fo) = some (.bp 0 0, ([some (.box [.d (.arr (r.Code.map rU)), IN r.At, .d (.lit (.int .u64 r.Seed))])] : Fo)) := by
  unfold p_spec_l00From at h
  refine callW (fu := Try.f81) rfl rfl rfl NN ?_
  intro lp cl hlp hcl
  conv => lhs; whnf
  obtain rfl := Option.some.inj h
  show _ = _
  kernel_rfl

noncomputable def p_spec_l00Src_next (a_0 : Sl00Src) : Option (Int × Sl00Src) :=
  if a_0.At < (a_0.Code.length : Int) then
    getK a_0.Code a_0.At fun x2 =>
    if (IntKind.i64.wrap (a_0.At + 1)) ≤ (a_0.Code.length : Int) then
      some ((IntKind.i64.wrap x2), (⟨a_0.Code, (IntKind.i64.wrap (a_0.At + 1)), (IntKind.u64.wrap ((IntKind.u64.wrap ((IntKind.u64.wrap (a_0.Seed * 6364136223846793005)) + (IntKind.u64.wrap (IntKind.i64.wrap x2)))) + 1442695040888963407))⟩ : Sl00Src))
    else
      some ((IntKind.i64.wrap (andK .u64 (Int.fdiv (IntKind.u64.wrap ((IntKind.u64.wrap ((IntKind.u64.wrap (a_0.Seed * 6364136223846793005)) + (IntKind.u64.wrap (IntKind.i64.wrap x2)))) + 1442695040888963407)) (2 ^ (min (Int.toNat 40) IntKind.u64.bits))) 255)), (⟨a_0.Code, (IntKind.i64.wrap (a_0.At + 1)), (IntKind.u64.wrap ((IntKind.u64.wrap ((IntKind.u64.wrap (a_0.Seed * 6364136223846793005)) + (IntKind.u64.wrap (IntKind.i64.wrap x2)))) + 1442695040888963407))⟩ : Sl00Src))
  else
    if (IntKind.i64.wrap (a_0.At + 1)) ≤ (a_0.Code.length : Int) then
      some (0, (⟨a_0.Code, (IntKind.i64.wrap (a_0.At + 1)), (IntKind.u64.wrap ((IntKind.u64.wrap ((IntKind.u64.wrap (a_0.Seed * 6364136223846793005)) + (IntKind.u64.wrap 0))) + 1442695040888963407))⟩ : Sl00Src))
    else
      some ((IntKind.i64.wrap (andK .u64 (Int.fdiv (IntKind.u64.wrap ((IntKind.u64.wrap ((IntKind.u64.wrap (a_0.Seed * 6364136223846793005)) + (IntKind.u64.wrap 0))) + 1442695040888963407)) (2 ^ (min (Int.toNat 40) IntKind.u64.bits))) 255)), (⟨a_0.Code, (IntKind.i64.wrap (a_0.At + 1)), (IntKind.u64.wrap ((IntKind.u64.wrap ((IntKind.u64.wrap (a_0.Seed * 6364136223846793005)) + (IntKind.u64.wrap 0))) + 1442695040888963407))⟩ : Sl00Src))

set_option maxHeartbeats 4000000 in
theorem L_spec_l00Src_next (a_0 : Sl00Src) {r : (Int × Sl00Src)} (h : p_spec_l00Src_next a_0 = some r) : callL E 204 [.bp 0 0] ([some (.box [.d (.arr (a_0.Code.map rU)), IN a_0.At, .d (.lit (.int .u64 a_0.Seed))])] : Fo) = some (IN r.1, ([some (.box [.d (.arr (r.2.Code.map rU)), IN r.2.At, .d (.lit (.int .u64 r.2.Seed))])] : Fo)) := by
  unfold p_spec_l00Src_next at h
  refine callW (fu := Try.f204) rfl rfl rfl NN ?_
  intro lp cl hlp hcl
  conv => lhs; whnf
  try rw [len_of (l := a_0.Code) (r := rU)]
  cases hb1 : (decide (a_0.At < (a_0.Code.length : Int)))
  · replace h := ifF h (decF hb1)
    conv => lhs; whnf
    try rw [len_of (l := a_0.Code) (r := rU)]
    cases hb4 : (decide ((IntKind.i64.wrap (a_0.At + 1)) ≤ (a_0.Code.length : Int)))
    · replace h := ifF h (decF hb4)
      conv => lhs; whnf
      obtain rfl := Option.some.inj h
      show _ = _
      kernel_rfl
    · replace h := ifT h (decT hb4)
      conv => lhs; whnf
      obtain rfl := Option.some.inj h
      show _ = _
      kernel_rfl
  · replace h := ifT h (decT hb1)
    conv => lhs; whnf
    obtain ⟨x2, hq_x2, hx_x2', h⟩ := getK_inv h
    have hx_x2 := get_of (r := rU) hx_x2'
    try (rw [decide_eq_true hq_x2]; conv => lhs; whnf)
    rw [hx_x2]
    conv => lhs; whnf
    rw [hx_x2]
    conv => lhs; whnf
    try rw [len_of (l := a_0.Code) (r := rU)]
    cases hb3 : (decide ((IntKind.i64.wrap (a_0.At + 1)) ≤ (a_0.Code.length : Int)))
    · replace h := ifF h (decF hb3)
      conv => lhs; whnf
      obtain rfl := Option.some.inj h
      show _ = _
      kernel_rfl
    · replace h := ifT h (decT hb3)
      conv => lhs; whnf
      obtain rfl := Option.some.inj h
      show _ = _
      kernel_rfl

noncomputable def p_spec_l00Src_pick (a_0 : Int) (a_1 : Sl00Src) : Option (Int × Sl00Src) :=
  if a_0 ≤ 1 then
    some (0, a_1)
  else
    callK (p_spec_l00Src_next a_1) fun y2 =>
    if a_0 > 200 then
      callK (p_spec_l00Src_next y2.2) fun y4 =>
      grd (a_0 ≠ 0) <|
      some ((Int.tmod (IntKind.i64.wrap ((IntKind.i64.wrap (y2.1 * 256)) + y4.1)) a_0), y4.2)
    else
      grd (a_0 ≠ 0) <|
      some ((Int.tmod y2.1 a_0), y2.2)

set_option maxHeartbeats 4000000 in
theorem L_spec_l00Src_pick (a_0 : Int) (a_1 : Sl00Src) {r : (Int × Sl00Src)} (h : p_spec_l00Src_pick a_0 a_1 = some r) : callL E 126 [.bp 0 0, IN a_0] ([some (.box [.d (.arr (a_1.Code.map rU)), IN a_1.At, .d (.lit (.int .u64 a_1.Seed))])] : Fo) = some (IN r.1, ([some (.box [.d (.arr (r.2.Code.map rU)), IN r.2.At, .d (.lit (.int .u64 r.2.Seed))])] : Fo)) := by
  unfold p_spec_l00Src_pick at h
  refine callW (fu := Try.f126) rfl rfl rfl NN ?_
  intro lp cl hlp hcl
  conv => lhs; whnf
  cases hb1 : (decide (a_0 ≤ 1))
  · replace h := ifF h (decF hb1)
    conv => lhs; whnf
    obtain ⟨y2, h_y2, h⟩ := callK_inv h
    rw [cl_eq hcl (L_spec_l00Src_next a_1 h_y2)]
    rotate_left
    · show _ = _
      kernel_rfl
    · show _ = _
      kernel_rfl
    conv => lhs; whnf
    cases hb3 : (decide (a_0 > 200))
    · replace h := ifF h (decF hb3)
      conv => lhs; whnf
      obtain ⟨hg5, h⟩ := grd_inv h
      rw [rem_run _ _ _ _ hg5]
      conv => lhs; whnf
      obtain rfl := Option.some.inj h
      show _ = _
      kernel_rfl
    · replace h := ifT h (decT hb3)
      conv => lhs; whnf
      obtain ⟨y4, h_y4, h⟩ := callK_inv h
      rw [cl_eq hcl (L_spec_l00Src_next y2.2 h_y4)]
      rotate_left
      · show _ = _
        kernel_rfl
      · show _ = _
        kernel_rfl
      conv => lhs; whnf
      obtain ⟨hg6, h⟩ := grd_inv h
      rw [rem_run _ _ _ _ hg6]
      conv => lhs; whnf
      obtain rfl := Option.some.inj h
      show _ = _
      kernel_rfl
  · replace h := ifT h (decT hb1)
    conv => lhs; whnf
    obtain rfl := Option.some.inj h
    show _ = _
    kernel_rfl
/-- A source of choices from which as many may still be drawn. -/
structure SrcOk (b : Int) (s : Sl00Src) : Prop where
  code : ∀ x ∈ s.Code, 0 ≤ x ∧ x ≤ 255
  len : s.Code.length ≤ 1048576
  lo : 0 ≤ s.At
  hi : s.At + b ≤ 4611686018427387904
theorem SrcOk.le {b c : Int} {s : Sl00Src} (h : SrcOk b s) (hc : c ≤ b) : SrcOk c s := ⟨h.1, h.2, h.3, by have := h.4; omega⟩
theorem nxV_in (sd : Int) : 0 ≤ IntKind.i64.wrap (andK .u64 sd 255) ∧ IntKind.i64.wrap (andK .u64 sd 255) ≤ 255 := by
  unfold andK
  generalize BitVec.ofInt IntKind.u64.bits sd = a
  have h1 : (a &&& BitVec.ofInt IntKind.u64.bits 255).toNat ≤ 255 := by
    rw [BitVec.toNat_and]
    exact Nat.le_trans Nat.and_le_right (by decide)
  generalize (a &&& BitVec.ofInt IntKind.u64.bits 255).toNat = m at h1
  have e1 : IntKind.u64.wrap (m : Int) = m := by unfold IntKind.wrap; simp [IntKind.signed, IntKind.bits]; omega
  rw [e1, wrap_sm _ (by omega) (by omega)]
  omega
theorem next_ok {b : Int} {s : Sl00Src} (hb : 0 ≤ b) (h : SrcOk (b + 1) s) : ∃ v s', p_spec_l00Src_next s = some (v, s') ∧ (0 ≤ v ∧ v ≤ 255) ∧ SrcOk b s' := by
  obtain ⟨h1, h2, h3, h4⟩ := h
  have hw : IntKind.i64.wrap (s.At + 1) = s.At + 1 := wrap_sm _ (by omega) (by omega)
  unfold p_spec_l00Src_next
  rw [hw]
  split
  · rename_i hlt
    rw [getK_in h3 hlt]
    have hb := h1 _ (List.getElem_mem (show s.At.toNat < s.Code.length by omega))
    rw [if_pos (by omega)]
    exact ⟨_, _, rfl, by rw [wrap_sm _ (by omega) (by omega)]; exact hb, h1, h2, by show 0 ≤ s.At + 1; omega, by show s.At + 1 + b ≤ _; omega⟩
  · rename_i hlt
    rw [if_neg (by omega)]
    exact ⟨_, _, rfl, nxV_in _, h1, h2, by show 0 ≤ s.At + 1; omega, by show s.At + 1 + b ≤ _; omega⟩
theorem pick_ok {b : Int} {s : Sl00Src} (m : Int) (hb : 0 ≤ b) (h : SrcOk (b + 2) s) : ∃ r s', p_spec_l00Src_pick m s = some (r, s') ∧ (0 ≤ r ∧ (1 < m → r < m) ∧ (m ≤ 1 → r = 0)) ∧ SrcOk b s' := by
  unfold p_spec_l00Src_pick
  split
  · rename_i hm
    exact ⟨0, s, rfl, ⟨by omega, fun h => by omega, fun _ => rfl⟩, h.le (by omega)⟩
  · rename_i hm
    obtain ⟨v1, s1, e1, b1, o1⟩ := next_ok (b := b + 1) (by omega) (h.le (by omega))
    rw [e1, callK_some]
    split
    · obtain ⟨v2, s2, e2, b2, o2⟩ := next_ok hb o1
      rw [e2, callK_some, grd_pos (by omega)]
      have w1 : IntKind.i64.wrap (v1 * 256) = v1 * 256 := wrap_sm _ (by omega) (by omega)
      have w2 : IntKind.i64.wrap (v1 * 256 + v2) = v1 * 256 + v2 := wrap_sm _ (by omega) (by omega)
      refine ⟨_, _, rfl, ?_, o2⟩
      show 0 ≤ Int.tmod (IntKind.i64.wrap (IntKind.i64.wrap (v1 * 256) + v2)) m ∧ _
      rw [w1, w2]
      exact ⟨Int.tmod_nonneg _ (by omega), fun _ => Int.tmod_lt_of_pos _ (by omega), fun h3 => by omega⟩
    · rw [grd_pos (by omega)]
      exact ⟨_, _, rfl, ⟨Int.tmod_nonneg _ b1.1, fun _ => Int.tmod_lt_of_pos _ (by omega), fun h3 => by omega⟩, o1.le (by omega)⟩
theorem from_ok {code : List Int} (h : ∀ x ∈ code, 0 ≤ x ∧ x ≤ 255) (hl : code.length ≤ 1048576) : ∃ s, p_spec_l00From code = some s ∧ SrcOk 1099511627776 s :=
  ⟨_, rfl, h, hl, by show (0 : Int) ≤ 0; omega, by show (0 : Int) + 1099511627776 ≤ _; omega⟩

def cmpB (a b : ByteArray) : Int := Lib.compareBytes a.data.toList b.data.toList
theorem f_Compare (a b : ByteArray) : callL E 200 [ST a, ST b] [] = some (IN (cmpB a b), []) := callX rfl rfl

noncomputable def p_laws_c2Big (a_0 : List Int) (a_1 : List Int) : Option Bool :=
  if (a_0.length : Int) > 1048576 then
    some true
  else
    some (decide ((a_1.length : Int) > 1048576))

set_option maxHeartbeats 4000000 in
theorem L_laws_c2Big (a_0 : List Int) (a_1 : List Int) {r : Bool} (h : p_laws_c2Big a_0 a_1 = some r) : callL E 23 [.d (.arr (a_0.map rU)), .d (.arr (a_1.map rU))] ([] : Fo) = some (BO r, ([] : Fo)) := by
  unfold p_laws_c2Big at h
  refine callW (fu := Try.f23) rfl rfl rfl NN ?_
  intro lp cl hlp hcl
  conv => lhs; whnf
  try rw [len_of (l := a_0) (r := rU)]
  cases hb1 : (decide ((a_0.length : Int) > 1048576))
  · replace h := ifF h (decF hb1)
    conv => lhs; whnf
    try (rw [hb1]; conv => lhs; whnf)
    try rw [len_of (l := a_1) (r := rU)]
    try (rw [hb1]; conv => lhs; whnf)
    try (rw [hb1]; conv => lhs; whnf)
    obtain rfl := Option.some.inj h
    show _ = _
    kernel_rfl
  · replace h := ifT h (decT hb1)
    conv => lhs; whnf
    try (rw [hb1]; conv => lhs; whnf)
    try (rw [hb1]; conv => lhs; whnf)
    try (rw [hb1]; conv => lhs; whnf)
    obtain rfl := Option.some.inj h
    show _ = _
    kernel_rfl
theorem pl_big (code : List Int) : p_laws_c2Big code ([] : List Int) = some (decide ((code.length : Int) > 1048576)) := by
  unfold p_laws_c2Big
  split
  · rename_i h; rw [decide_eq_true h]
  · rename_i h; rw [decide_eq_false h]; rfl

noncomputable def p_spec_l00Src_among (a_0 : List Int) (a_1 : Sl00Src) : Option (Int × Sl00Src) :=
  callK (p_spec_l00Src_pick (a_0.length : Int) a_1) fun y1 =>
  getK a_0 y1.1 fun x2 =>
  some (x2, y1.2)

set_option maxHeartbeats 4000000 in
theorem L_spec_l00Src_among (a_0 : List Int) (a_1 : Sl00Src) {r : (Int × Sl00Src)} (h : p_spec_l00Src_among a_0 a_1 = some r) : callL E 161 [.bp 0 0, .d (.arr (a_0.map rI))] ([some (.box [.d (.arr (a_1.Code.map rU)), IN a_1.At, .d (.lit (.int .u64 a_1.Seed))])] : Fo) = some (IN r.1, ([some (.box [.d (.arr (r.2.Code.map rU)), IN r.2.At, .d (.lit (.int .u64 r.2.Seed))])] : Fo)) := by
  unfold p_spec_l00Src_among at h
  refine callW (fu := Try.f161) rfl rfl rfl NN ?_
  intro lp cl hlp hcl
  conv => lhs; whnf
  try rw [len_of (l := a_0) (r := rI)]
  obtain ⟨y1, h_y1, h⟩ := callK_inv h
  rw [cl_eq hcl (L_spec_l00Src_pick (a_0.length : Int) a_1 h_y1)]
  rotate_left
  · show _ = _
    kernel_rfl
  · show _ = _
    kernel_rfl
  conv => lhs; whnf
  obtain ⟨x2, hq_x2, hx_x2', h⟩ := getK_inv h
  have hx_x2 := get_of (r := rI) hx_x2'
  try (rw [decide_eq_true hq_x2]; conv => lhs; whnf)
  rw [hx_x2]
  conv => lhs; whnf
  rw [hx_x2]
  conv => lhs; whnf
  obtain rfl := Option.some.inj h
  show _ = _
  kernel_rfl
theorem among_ok {b : Int} {s : Sl00Src} (l : List Int) (hl : 0 < l.length) (hb : 0 ≤ b) (h : SrcOk (b + 2) s) : ∃ r s', p_spec_l00Src_among l s = some (r, s') ∧ r ∈ l ∧ SrcOk b s' := by
  obtain ⟨r, s1, e1, ⟨b1, b2, b3⟩, o1⟩ := pick_ok (l.length : Int) hb h
  unfold p_spec_l00Src_among
  have hr : r < (l.length : Int) := by
    rcases Nat.lt_or_ge 1 l.length with h | h
    · exact b2 (by omega)
    · have := b3 (by omega); omega
  rw [e1, callK_some, getK_in b1 hr]
  exact ⟨_, _, rfl, List.getElem_mem _, o1⟩

noncomputable def p_spec_l00Src_one (a_0 : Int) (a_1 : Sl00Src) : Option (Bool × Sl00Src) :=
  callK (p_spec_l00Src_pick a_0 a_1) fun y1 =>
  some ((y1.1 == 0), y1.2)

set_option maxHeartbeats 4000000 in
theorem L_spec_l00Src_one (a_0 : Int) (a_1 : Sl00Src) {r : (Bool × Sl00Src)} (h : p_spec_l00Src_one a_0 a_1 = some r) : callL E 90 [.bp 0 0, IN a_0] ([some (.box [.d (.arr (a_1.Code.map rU)), IN a_1.At, .d (.lit (.int .u64 a_1.Seed))])] : Fo) = some (BO r.1, ([some (.box [.d (.arr (r.2.Code.map rU)), IN r.2.At, .d (.lit (.int .u64 r.2.Seed))])] : Fo)) := by
  unfold p_spec_l00Src_one at h
  refine callW (fu := Try.f90) rfl rfl rfl NN ?_
  intro lp cl hlp hcl
  conv => lhs; whnf
  obtain ⟨y1, h_y1, h⟩ := callK_inv h
  rw [cl_eq hcl (L_spec_l00Src_pick a_0 a_1 h_y1)]
  rotate_left
  · show _ = _
    kernel_rfl
  · show _ = _
    kernel_rfl
  conv => lhs; whnf
  obtain rfl := Option.some.inj h
  show _ = _
  kernel_rfl
theorem one_ok {b : Int} {s : Sl00Src} (m : Int) (hb : 0 ≤ b) (h : SrcOk (b + 2) s) : ∃ r s', p_spec_l00Src_one m s = some (r, s') ∧ SrcOk b s' := by
  obtain ⟨r, s1, e1, _, o1⟩ := pick_ok m hb h
  unfold p_spec_l00Src_one
  rw [e1, callK_some]
  exact ⟨_, _, rfl, o1⟩

noncomputable def p_spec_l00Src_text (a_0 : Sl00Src) (a_1 : List ByteArray) : Option (ByteArray × Sl00Src) :=
  callK (p_spec_l00Src_pick (a_1.length : Int) a_0) fun y1 =>
  getK a_1 y1.1 fun x2 =>
  some (x2, y1.2)

set_option maxHeartbeats 4000000 in
theorem L_spec_l00Src_text (a_0 : Sl00Src) (a_1 : List ByteArray) {r : (ByteArray × Sl00Src)} (h : p_spec_l00Src_text a_0 a_1 = some r) : callL E 176 [.bp 0 0, .sl 1] ([some (.box [.d (.arr (a_0.Code.map rU)), IN a_0.At, .d (.lit (.int .u64 a_0.Seed))]), some (.arr 9 1 (a_1.map rS))] : Fo) = some (ST r.1, ([some (.box [.d (.arr (r.2.Code.map rU)), IN r.2.At, .d (.lit (.int .u64 r.2.Seed))]), some (.arr 9 1 (a_1.map rS))] : Fo)) := by
  unfold p_spec_l00Src_text at h
  refine callW (fu := Try.f176) rfl rfl rfl NN ?_
  intro lp cl hlp hcl
  conv => lhs; whnf
  try rw [len_of (l := a_1) (r := rS)]
  obtain ⟨y1, h_y1, h⟩ := callK_inv h
  rw [cl_eq hcl (L_spec_l00Src_pick (a_1.length : Int) a_0 h_y1)]
  rotate_left
  · show _ = _
    kernel_rfl
  · show _ = _
    kernel_rfl
  conv => lhs; whnf
  obtain ⟨x2, hq_x2, hx_x2', h⟩ := getK_inv h
  have hx_x2 := get_of (r := rS) hx_x2'
  try (rw [decide_eq_true hq_x2]; conv => lhs; whnf)
  rw [hx_x2]
  conv => lhs; whnf
  rw [hx_x2]
  conv => lhs; whnf
  obtain rfl := Option.some.inj h
  show _ = _
  kernel_rfl

noncomputable def p_spec_l17Key (a_0 : ByteArray) : Option Bool :=
  if (ByteArray.size a_0 : Int) ≥ 1 then
    some (decide ((ByteArray.size a_0 : Int) ≤ 8))
  else
    some false

set_option maxHeartbeats 4000000 in
theorem L_spec_l17Key (a_0 : ByteArray) {r : Bool} (h : p_spec_l17Key a_0 = some r) : callL E 147 [ST a_0] ([] : Fo) = some (BO r, ([] : Fo)) := by
  unfold p_spec_l17Key at h
  refine callW (fu := Try.f147) rfl rfl rfl NN ?_
  intro lp cl hlp hcl
  conv => lhs; whnf
  cases hb1 : (decide ((ByteArray.size a_0 : Int) ≥ 1))
  · replace h := ifF h (decF hb1)
    conv => lhs; whnf
    try (rw [hb1]; conv => lhs; whnf)
    try (rw [hb1]; conv => lhs; whnf)
    try (rw [hb1]; conv => lhs; whnf)
    obtain rfl := Option.some.inj h
    show _ = _
    kernel_rfl
  · replace h := ifT h (decT hb1)
    conv => lhs; whnf
    try (rw [hb1]; conv => lhs; whnf)
    try (rw [hb1]; conv => lhs; whnf)
    try (rw [hb1]; conv => lhs; whnf)
    obtain rfl := Option.some.inj h
    show _ = _
    kernel_rfl

noncomputable def p_spec_l17Valid (a_0 : Record) : Option Bool :=
  callK (p_spec_l17Key a_0.Key) fun y1 =>
  if y1 = true then
    if (inR a_0.Seq 1 1000000) = true then
      if a_0.Kind = 1 then
        if (ByteArray.size a_0.Value : Int) ≤ 16 then
          some (a_0.End.toList == (⟨#[]⟩ : ByteArray).toList)
        else
          some false
      else
        if a_0.Kind = 2 then
          if (a_0.Value.toList == (⟨#[]⟩ : ByteArray).toList) = true then
            some (a_0.End.toList == (⟨#[]⟩ : ByteArray).toList)
          else
            some false
        else
          if a_0.Kind = 3 then
            if (a_0.Value.toList == (⟨#[]⟩ : ByteArray).toList) = true then
              callK (p_spec_l17Key a_0.End) fun y10 =>
              if y10 = true then
                some (Op.bytesLess a_0.Key.toList a_0.End.toList)
              else
                some false
            else
              some false
          else
            some false
    else
      some false
  else
    some false

set_option maxHeartbeats 4000000 in
theorem L_spec_l17Valid (a_0 : Record) {r : Bool} (h : p_spec_l17Valid a_0 = some r) : callL E 133 [.agg [ST a_0.Key, IN a_0.Seq, IN a_0.Kind, ST a_0.Value, ST a_0.End]] ([] : Fo) = some (BO r, ([] : Fo)) := by
  unfold p_spec_l17Valid at h
  refine callW (fu := Try.f133) rfl rfl rfl NN ?_
  intro lp cl hlp hcl
  conv => lhs; whnf
  obtain ⟨y1, h_y1, h⟩ := callK_inv h
  rw [cl_eq hcl (L_spec_l17Key a_0.Key h_y1)]
  rotate_left
  · show _ = _
    kernel_rfl
  · show _ = _
    kernel_rfl
  conv => lhs; whnf
  cases hb2 : y1
  · replace h := ifF h (booF hb2)
    conv => lhs; whnf
    try (rw [hb2]; conv => lhs; whnf)
    try (rw [hb2]; conv => lhs; whnf)
    try (rw [hb2]; conv => lhs; whnf)
    try (rw [hb2]; conv => lhs; whnf)
    obtain rfl := Option.some.inj h
    show _ = _
    kernel_rfl
  · replace h := ifT h hb2
    try rw [hb2] at h
    conv => lhs; whnf
    try (rw [hb2]; conv => lhs; whnf)
    try (rw [hb2]; conv => lhs; whnf)
    rw [cl_eq hcl (L_spec_l00In a_0.Seq 1 1000000 (pl_l00In a_0.Seq 1 1000000))]
    rotate_left
    · show _ = _
      kernel_rfl
    · show _ = _
      kernel_rfl
    conv => lhs; whnf
    try (rw [hb2]; conv => lhs; whnf)
    try (rw [hb2]; conv => lhs; whnf)
    cases hb3 : (inR a_0.Seq 1 1000000)
    · replace h := ifF h (booF hb3)
      conv => lhs; whnf
      obtain rfl := Option.some.inj h
      show _ = _
      kernel_rfl
    · replace h := ifT h hb3
      conv => lhs; whnf
      cases hb4 : (a_0.Kind == 1)
      · replace h := ifF h (beqF hb4)
        conv => lhs; whnf
        cases hb6 : (a_0.Kind == 2)
        · replace h := ifF h (beqF hb6)
          conv => lhs; whnf
          cases hb8 : (a_0.Kind == 3)
          · replace h := ifF h (beqF hb8)
            conv => lhs; whnf
            obtain rfl := Option.some.inj h
            show _ = _
            kernel_rfl
          · replace h := ifT h (beqT hb8)
            conv => lhs; whnf
            cases hb9 : (a_0.Value.toList == (⟨#[]⟩ : ByteArray).toList)
            · replace h := ifF h (booF hb9)
              conv => lhs; whnf
              try (rw [hb9]; conv => lhs; whnf)
              try (rw [hb9]; conv => lhs; whnf)
              try (rw [hb9]; conv => lhs; whnf)
              obtain rfl := Option.some.inj h
              show _ = _
              kernel_rfl
            · replace h := ifT h hb9
              conv => lhs; whnf
              try (rw [hb9]; conv => lhs; whnf)
              try (rw [hb9]; conv => lhs; whnf)
              obtain ⟨y10, h_y10, h⟩ := callK_inv h
              rw [cl_eq hcl (L_spec_l17Key a_0.End h_y10)]
              rotate_left
              · show _ = _
                kernel_rfl
              · show _ = _
                kernel_rfl
              conv => lhs; whnf
              try (rw [hb9]; conv => lhs; whnf)
              cases hb11 : y10
              · replace h := ifF h (booF hb11)
                conv => lhs; whnf
                try (rw [hb11]; conv => lhs; whnf)
                try (rw [hb11]; conv => lhs; whnf)
                try (rw [hb11]; conv => lhs; whnf)
                try (rw [hb11]; conv => lhs; whnf)
                try (rw [hb11]; conv => lhs; whnf)
                obtain rfl := Option.some.inj h
                show _ = _
                kernel_rfl
              · replace h := ifT h hb11
                conv => lhs; whnf
                try (rw [hb11]; conv => lhs; whnf)
                try (rw [hb11]; conv => lhs; whnf)
                try (rw [hb11]; conv => lhs; whnf)
                try (rw [hb11]; conv => lhs; whnf)
                try (rw [hb11]; conv => lhs; whnf)
                obtain rfl := Option.some.inj h
                show _ = _
                kernel_rfl
        · replace h := ifT h (beqT hb6)
          conv => lhs; whnf
          cases hb7 : (a_0.Value.toList == (⟨#[]⟩ : ByteArray).toList)
          · replace h := ifF h (booF hb7)
            conv => lhs; whnf
            try (rw [hb7]; conv => lhs; whnf)
            try (rw [hb7]; conv => lhs; whnf)
            try (rw [hb7]; conv => lhs; whnf)
            obtain rfl := Option.some.inj h
            show _ = _
            kernel_rfl
          · replace h := ifT h hb7
            conv => lhs; whnf
            try (rw [hb7]; conv => lhs; whnf)
            try (rw [hb7]; conv => lhs; whnf)
            try (rw [hb7]; conv => lhs; whnf)
            obtain rfl := Option.some.inj h
            show _ = _
            kernel_rfl
      · replace h := ifT h (beqT hb4)
        conv => lhs; whnf
        cases hb5 : (decide ((ByteArray.size a_0.Value : Int) ≤ 16))
        · replace h := ifF h (decF hb5)
          conv => lhs; whnf
          try (rw [hb5]; conv => lhs; whnf)
          try (rw [hb5]; conv => lhs; whnf)
          try (rw [hb5]; conv => lhs; whnf)
          obtain rfl := Option.some.inj h
          show _ = _
          kernel_rfl
        · replace h := ifT h (decT hb5)
          conv => lhs; whnf
          try (rw [hb5]; conv => lhs; whnf)
          try (rw [hb5]; conv => lhs; whnf)
          try (rw [hb5]; conv => lhs; whnf)
          obtain rfl := Option.some.inj h
          show _ = _
          kernel_rfl

noncomputable def p_spec_l17Less (a_0 : Record) (a_1 : Record) : Option Bool :=
  if (a_0.Key.toList == a_1.Key.toList) = true then
    if ¬ a_0.Seq = a_1.Seq then
      some (decide (a_0.Seq > a_1.Seq))
    else
      if ¬ a_0.Kind = a_1.Kind then
        some (decide (a_0.Kind < a_1.Kind))
      else
        if (a_0.Value.toList == a_1.Value.toList) = true then
          some (Op.bytesLess a_0.End.toList a_1.End.toList)
        else
          some (Op.bytesLess a_0.Value.toList a_1.Value.toList)
  else
    some (Op.bytesLess a_0.Key.toList a_1.Key.toList)

set_option maxHeartbeats 4000000 in
theorem L_spec_l17Less (a_0 : Record) (a_1 : Record) {r : Bool} (h : p_spec_l17Less a_0 a_1 = some r) : callL E 134 [.agg [ST a_0.Key, IN a_0.Seq, IN a_0.Kind, ST a_0.Value, ST a_0.End], .agg [ST a_1.Key, IN a_1.Seq, IN a_1.Kind, ST a_1.Value, ST a_1.End]] ([] : Fo) = some (BO r, ([] : Fo)) := by
  unfold p_spec_l17Less at h
  refine callW (fu := Try.f134) rfl rfl rfl NN ?_
  intro lp cl hlp hcl
  conv => lhs; whnf
  cases hb1 : (a_0.Key.toList == a_1.Key.toList)
  · replace h := ifF h (booF hb1)
    conv => lhs; whnf
    obtain rfl := Option.some.inj h
    show _ = _
    kernel_rfl
  · replace h := ifT h hb1
    conv => lhs; whnf
    cases hb2 : (a_0.Seq != a_1.Seq)
    · replace h := ifF h ((fun h => not_not_intro (bneF h)) hb2)
      conv => lhs; whnf
      cases hb3 : (a_0.Kind != a_1.Kind)
      · replace h := ifF h ((fun h => not_not_intro (bneF h)) hb3)
        conv => lhs; whnf
        cases hb4 : (a_0.Value.toList == a_1.Value.toList)
        · replace h := ifF h (booF hb4)
          conv => lhs; whnf
          obtain rfl := Option.some.inj h
          show _ = _
          kernel_rfl
        · replace h := ifT h hb4
          conv => lhs; whnf
          obtain rfl := Option.some.inj h
          show _ = _
          kernel_rfl
      · replace h := ifT h (bneT hb3)
        conv => lhs; whnf
        obtain rfl := Option.some.inj h
        show _ = _
        kernel_rfl
    · replace h := ifT h (bneT hb2)
      conv => lhs; whnf
      obtain rfl := Option.some.inj h
      show _ = _
      kernel_rfl

noncomputable def p_spec_l17Into (a_0 : Record) (a_1 : List Record) : Option (List Record) :=
  grd (a_1.length < 4611686018427387904) <|
  forK a_1 (fun (i6 : Nat) x8 (_ : Unit) (nx7 : Unit → Option _) =>
    callK (p_spec_l17Less x8 a_0) fun y9 =>
    if y9 = true then
      nx7 ()
    else
      if ((x8.Key.toList == a_0.Key.toList) && ((x8.Seq == a_0.Seq) && ((x8.Kind == a_0.Kind) && ((x8.Value.toList == a_0.Value.toList) && ((x8.End.toList == a_0.End.toList) && true))))) = true then
        some a_1
      else
        grd (0 ≤ 0 ∧ 0 ≤ (i6 : Int) ∧ (i6 : Int) ≤ (a_1.length : Int)) <|
        grd (appOk (0 + ((a_1.drop (Int.toNat 0)).take (Int.toNat (i6 : Int) - Int.toNat 0)).length) 64 = true) <|
        grd (appOk (((a_1.drop (Int.toNat 0)).take (Int.toNat (i6 : Int) - Int.toNat 0)).length + 1) 64 = true) <|
        grd (0 ≤ (i6 : Int) ∧ (i6 : Int) ≤ (a_1.length : Int) ∧ (a_1.length : Int) ≤ (a_1.length : Int)) <|
        grd (appOk ((((a_1.drop (Int.toNat 0)).take (Int.toNat (i6 : Int) - Int.toNat 0)) ++ ([a_0] : List Record)).length + ((a_1.drop (Int.toNat (i6 : Int))).take (Int.toNat (a_1.length : Int) - Int.toNat (i6 : Int))).length) 64 = true) <|
        some ((((a_1.drop (Int.toNat 0)).take (Int.toNat (i6 : Int) - Int.toNat 0)) ++ ([a_0] : List Record)) ++ ((a_1.drop (Int.toNat (i6 : Int))).take (Int.toNat (a_1.length : Int) - Int.toNat (i6 : Int))))) () (fun (_ : Unit) =>
    grd (0 ≤ 0 ∧ 0 ≤ (a_1.length : Int) ∧ (a_1.length : Int) ≤ (a_1.length : Int)) <|
    grd (appOk (0 + ((a_1.drop (Int.toNat 0)).take (Int.toNat (a_1.length : Int) - Int.toNat 0)).length) 64 = true) <|
    grd (appOk (((a_1.drop (Int.toNat 0)).take (Int.toNat (a_1.length : Int) - Int.toNat 0)).length + 1) 64 = true) <|
    grd (0 ≤ (a_1.length : Int) ∧ (a_1.length : Int) ≤ (a_1.length : Int) ∧ (a_1.length : Int) ≤ (a_1.length : Int)) <|
    grd (appOk ((((a_1.drop (Int.toNat 0)).take (Int.toNat (a_1.length : Int) - Int.toNat 0)) ++ ([a_0] : List Record)).length + ((a_1.drop (Int.toNat (a_1.length : Int))).take (Int.toNat (a_1.length : Int) - Int.toNat (a_1.length : Int))).length) 64 = true) <|
    some ((((a_1.drop (Int.toNat 0)).take (Int.toNat (a_1.length : Int) - Int.toNat 0)) ++ ([a_0] : List Record)) ++ ((a_1.drop (Int.toNat (a_1.length : Int))).take (Int.toNat (a_1.length : Int) - Int.toNat (a_1.length : Int)))))

set_option maxHeartbeats 4000000 in
theorem L_spec_l17Into (a_0 : Record) (a_1 : List Record) {r : (List Record)} (h : p_spec_l17Into a_0 a_1 = some r) : callL E 160 [.sl 0, .agg [ST a_0.Key, IN a_0.Seq, IN a_0.Kind, ST a_0.Value, ST a_0.End]] ([some (.arr 30 5 (a_1.map rRecord))] : Fo) = some (.sl 1, ([none, some (.arr 30 5 (r.map rRecord))] : Fo)) := by
  unfold p_spec_l17Into at h
  refine callW (fu := Try.f160) rfl rfl rfl NN ?_
  intro lp cl hlp hcl
  conv => lhs; whnf
  obtain ⟨hl_i6, h⟩ := grd_inv h
  refine loop_for hlp (l := a_1) hl_i6 (fun (i6 : Nat) (_ : Unit) => ([.sl 0, .dead, .dead, .bp 1 0, .dead, IN (i6 : Int)] ++ List.replicate 42 .dead : List V)) (fun (i6 : Nat) (_ : Unit) => ([some (.arr 30 5 (a_1.map rRecord)), some (.box [ST a_0.Key, IN a_0.Seq, IN a_0.Kind, ST a_0.Value, ST a_0.End])] : Fo)) (fun (r : (List Record)) => ((.sl 1 : V), ([none, some (.arr 30 5 (r.map rRecord))] : Fo))) ?_ ?_ () _ (fun kk => by kernel_rfl) h
  · clear h
    rintro next_nx7 nx7 i6 hi_i6 hnx7 ⟨⟩ r h
    try dsimp only at h
    have hn_i6 : i6 < 4611686018427387904 := by omega
    have hx_x8 := get_map rRecord a_1 i6 hi_i6
    generalize a_1[i6] = x8 at h hx_x8
    have hd_i6 : (decide ((i6 : Int) < (a_1.length : Int))) = true := decide_eq_true (by omega)
    conv => lhs; whnf
    try rw [len_of (l := a_1) (r := rRecord)]
    rw [hd_i6]
    conv => lhs; whnf
    try (rw [hd_i6]; conv => lhs; whnf)
    try (rw [hd_i6]; conv => lhs; whnf)
    try (rw [decide_eq_true hq_x8]; conv => lhs; whnf)
    rw [hx_x8]
    conv => lhs; whnf
    try (rw [hd_i6]; conv => lhs; whnf)
    rw [hx_x8]
    conv => lhs; whnf
    try (rw [hd_i6]; conv => lhs; whnf)
    try (rw [hd_i6]; conv => lhs; whnf)
    obtain ⟨y9, h_y9, h⟩ := callK_inv h
    rw [cl_eq hcl (L_spec_l17Less x8 a_0 h_y9)]
    rotate_left
    · show _ = _
      kernel_rfl
    · show _ = _
      kernel_rfl
    conv => lhs; whnf
    try (rw [hd_i6]; conv => lhs; whnf)
    cases hb10 : y9
    · replace h := ifF h (booF hb10)
      conv => lhs; whnf
      try rw [len_of (l := a_1) (r := rRecord)]
      try (rw [hd_i6]; conv => lhs; whnf)
      try (rw [hd_i6]; conv => lhs; whnf)
      try (rw [hd_i6]; conv => lhs; whnf)
      try (rw [decide_eq_true hq_x8]; conv => lhs; whnf)
      rw [hx_x8]
      conv => lhs; whnf
      try (rw [hd_i6]; conv => lhs; whnf)
      rw [hx_x8]
      conv => lhs; whnf
      try (rw [hd_i6]; conv => lhs; whnf)
      try (rw [hd_i6]; conv => lhs; whnf)
      try (rw [hd_i6]; conv => lhs; whnf)
      cases hb11 : ((x8.Key.toList == a_0.Key.toList) && ((x8.Seq == a_0.Seq) && ((x8.Kind == a_0.Kind) && ((x8.Value.toList == a_0.Value.toList) && ((x8.End.toList == a_0.End.toList) && true)))))
      · replace h := ifF h (booF hb11)
        conv => lhs; whnf
        skip
        obtain ⟨hg12, h⟩ := grd_inv h
        try (rw [allLen_map rRecord _ rRecord_len]; conv => lhs; whnf)
        try rw [List.length_map]
        try (rw [decide_eq_true hg12.1]; conv => lhs; whnf)
        try (rw [decide_eq_true hg12.2.1]; conv => lhs; whnf)
        try (rw [decide_eq_true hg12.2.2])
        conv => lhs; whnf
        try rw [cut_of (r := rRecord) (l := a_1)]
        obtain ⟨hg13, h⟩ := grd_inv h
        rw [app_eq hg13 ?h1 ?h2]
        case h1 => first | exact rfl | (simp only [List.length_map, List.length_cons, List.length_nil]; done) | (rw [List.length_map]; rfl)
        case h2 => exact rfl
        conv => lhs; whnf
        rw [allLen_map rRecord _ rRecord_len]
        conv => lhs; whnf
        first | (rw [nil_app_of (r := rRecord) (m := ((a_1.drop (Int.toNat 0)).take (Int.toNat (i6 : Int) - Int.toNat 0))) ?hh]; case hh => exact rfl) | skip
        obtain ⟨hg14, h⟩ := grd_inv h
        rw [app_eq hg14 ?h1 ?h2]
        case h1 => first | exact rfl | (simp only [List.length_map, List.length_cons, List.length_nil]; done) | (rw [List.length_map]; rfl)
        case h2 => exact rfl
        conv => lhs; whnf
        first | (rw [map_app_of (r := rRecord) (l := ((a_1.drop (Int.toNat 0)).take (Int.toNat (i6 : Int) - Int.toNat 0))) (m := ([a_0] : List Record)) ?hh]; case hh => exact rfl) | skip
        obtain ⟨hg15, h⟩ := grd_inv h
        try (rw [allLen_map rRecord _ rRecord_len]; conv => lhs; whnf)
        try rw [List.length_map]
        try (rw [decide_eq_true hg15.1]; conv => lhs; whnf)
        try (rw [decide_eq_true hg15.2.1]; conv => lhs; whnf)
        try (rw [decide_eq_true hg15.2.2])
        conv => lhs; whnf
        try rw [cut_of (r := rRecord) (l := a_1)]
        obtain ⟨hg16, h⟩ := grd_inv h
        rw [app_eq hg16 ?h1 ?h2]
        case h1 => first | exact rfl | (simp only [List.length_map, List.length_cons, List.length_nil]; done) | (rw [List.length_map]; rfl)
        case h2 => exact rfl
        conv => lhs; whnf
        rw [allLen_map rRecord _ rRecord_len]
        conv => lhs; whnf
        first | (rw [map_app_of (r := rRecord) (l := (((a_1.drop (Int.toNat 0)).take (Int.toNat (i6 : Int) - Int.toNat 0)) ++ ([a_0] : List Record))) (m := ((a_1.drop (Int.toNat (i6 : Int))).take (Int.toNat (a_1.length : Int) - Int.toNat (i6 : Int)))) ?hh]; case hh => exact rfl) | skip
        obtain rfl := Option.some.inj h
        show _ = _
        kernel_rfl
      · replace h := ifT h hb11
        conv => lhs; whnf
        obtain rfl := Option.some.inj h
        show _ = _
        kernel_rfl
    · replace h := ifT h hb10
      conv => lhs; whnf
      rw [wrap_nat i6 (by have := hn_i6; omega)]
      exact hnx7 _ _ _ _ (fun kk => by kernel_rfl) h
  · clear h
    rintro next_nx7 ⟨⟩ r h
    try dsimp only at h
    have hd_i6 : (decide ((a_1.length : Int) < (a_1.length : Int))) = false := decide_eq_false (by omega)
    conv => lhs; whnf
    try rw [len_of (l := a_1) (r := rRecord)]
    rw [hd_i6]
    conv => lhs; whnf
    try (rw [hd_i6]; conv => lhs; whnf)
    try (rw [hd_i6]; conv => lhs; whnf)
    try (rw [hd_i6]; conv => lhs; whnf)
    try (rw [hd_i6]; conv => lhs; whnf)
    try (rw [hd_i6]; conv => lhs; whnf)
    try (rw [hd_i6]; conv => lhs; whnf)
    try rw [len_of (l := a_1) (r := rRecord)]
    try (rw [hd_i6]; conv => lhs; whnf)
    try (rw [hd_i6]; conv => lhs; whnf)
    try (rw [hd_i6]; conv => lhs; whnf)
    try (rw [hd_i6]; conv => lhs; whnf)
    try (rw [hd_i6]; conv => lhs; whnf)
    try (rw [hd_i6]; conv => lhs; whnf)
    try (rw [hd_i6]; conv => lhs; whnf)
    skip
    obtain ⟨hg17, h⟩ := grd_inv h
    try (rw [allLen_map rRecord _ rRecord_len]; conv => lhs; whnf)
    try rw [List.length_map]
    try (rw [decide_eq_true hg17.1]; conv => lhs; whnf)
    try (rw [decide_eq_true hg17.2.1]; conv => lhs; whnf)
    try (rw [decide_eq_true hg17.2.2])
    conv => lhs; whnf
    try rw [cut_of (r := rRecord) (l := a_1)]
    obtain ⟨hg18, h⟩ := grd_inv h
    rw [app_eq hg18 ?h1 ?h2]
    case h1 => first | exact rfl | (simp only [List.length_map, List.length_cons, List.length_nil]; done) | (rw [List.length_map]; rfl)
    case h2 => exact rfl
    conv => lhs; whnf
    rw [allLen_map rRecord _ rRecord_len]
    conv => lhs; whnf
    first | (rw [nil_app_of (r := rRecord) (m := ((a_1.drop (Int.toNat 0)).take (Int.toNat (a_1.length : Int) - Int.toNat 0))) ?hh]; case hh => exact rfl) | skip
    obtain ⟨hg19, h⟩ := grd_inv h
    rw [app_eq hg19 ?h1 ?h2]
    case h1 => first | exact rfl | (simp only [List.length_map, List.length_cons, List.length_nil]; done) | (rw [List.length_map]; rfl)
    case h2 => exact rfl
    conv => lhs; whnf
    first | (rw [map_app_of (r := rRecord) (l := ((a_1.drop (Int.toNat 0)).take (Int.toNat (a_1.length : Int) - Int.toNat 0))) (m := ([a_0] : List Record)) ?hh]; case hh => exact rfl) | skip
    obtain ⟨hg20, h⟩ := grd_inv h
    try (rw [allLen_map rRecord _ rRecord_len]; conv => lhs; whnf)
    try rw [List.length_map]
    try (rw [decide_eq_true hg20.1]; conv => lhs; whnf)
    try (rw [decide_eq_true hg20.2.1]; conv => lhs; whnf)
    try (rw [decide_eq_true hg20.2.2])
    conv => lhs; whnf
    try rw [cut_of (r := rRecord) (l := a_1)]
    obtain ⟨hg21, h⟩ := grd_inv h
    rw [app_eq hg21 ?h1 ?h2]
    case h1 => first | exact rfl | (simp only [List.length_map, List.length_cons, List.length_nil]; done) | (rw [List.length_map]; rfl)
    case h2 => exact rfl
    conv => lhs; whnf
    rw [allLen_map rRecord _ rRecord_len]
    conv => lhs; whnf
    first | (rw [map_app_of (r := rRecord) (l := (((a_1.drop (Int.toNat 0)).take (Int.toNat (a_1.length : Int) - Int.toNat 0)) ++ ([a_0] : List Record))) (m := ((a_1.drop (Int.toNat (a_1.length : Int))).take (Int.toNat (a_1.length : Int) - Int.toNat (a_1.length : Int)))) ?hh]; case hh => exact rfl) | skip
    obtain rfl := Option.some.inj h
    show _ = _
    kernel_rfl

noncomputable def p_spec_l17Sort (a_0 : List Record) : Option (List Record) :=
  grd (a_0.length < 4611686018427387904) <|
  forK a_0 (fun (i8 : Nat) x11 (v9 : List Record) (nx10 : (List Record) → Option _) =>
    callK (p_spec_l17Valid x11) fun y12 =>
    if y12 = true then
      callK (p_spec_l17Into x11 v9) fun y14 =>
      nx10 y14
    else
      nx10 v9) ([] : List Record) (fun (v9 : List Record) =>
    some v9)

set_option maxHeartbeats 4000000 in
theorem L_spec_l17Sort (a_0 : List Record) {r : (List Record)} (h : p_spec_l17Sort a_0 = some r) : callL E 225 [.d (.arr (a_0.map rRecord))] ([] : Fo) = some (.sl 0, ([some (.arr 30 5 (r.map rRecord))] : Fo)) := by
  unfold p_spec_l17Sort at h
  refine callW (fu := Try.f225) rfl rfl rfl NN ?_
  intro lp cl hlp hcl
  conv => lhs; whnf
  obtain ⟨hl_i8, h⟩ := grd_inv h
  refine loop_for hlp (l := a_0) hl_i8 (fun (i8 : Nat) (v9 : List Record) => ([.d (.arr (a_0.map rRecord)), .dead, .dead, .sl 0, IN (i8 : Int)] ++ List.replicate 19 .dead : List V)) (fun (i8 : Nat) (v9 : List Record) => ([some (.arr 30 5 (v9.map rRecord))] : Fo)) (fun (r : (List Record)) => ((.sl 0 : V), ([some (.arr 30 5 (r.map rRecord))] : Fo))) ?_ ?_ ([] : List Record) _ (fun kk => by kernel_rfl) h
  · clear h
    rintro next_nx10 nx10 i8 hi_i8 hnx10 v9 r h
    try dsimp only at h
    have hn_i8 : i8 < 4611686018427387904 := by omega
    have hx_x11 := get_map rRecord a_0 i8 hi_i8
    generalize a_0[i8] = x11 at h hx_x11
    have hd_i8 : (decide ((i8 : Int) < (a_0.length : Int))) = true := decide_eq_true (by omega)
    conv => lhs; whnf
    try rw [len_of (l := a_0) (r := rRecord)]
    rw [hd_i8]
    conv => lhs; whnf
    try (rw [decide_eq_true hq_x11]; conv => lhs; whnf)
    rw [hx_x11]
    conv => lhs; whnf
    rw [hx_x11]
    conv => lhs; whnf
    obtain ⟨y12, h_y12, h⟩ := callK_inv h
    rw [cl_eq hcl (L_spec_l17Valid x11 h_y12)]
    rotate_left
    · show _ = _
      kernel_rfl
    · show _ = _
      kernel_rfl
    conv => lhs; whnf
    cases hb13 : y12
    · replace h := ifF h (booF hb13)
      conv => lhs; whnf
      rw [wrap_nat i8 (by have := hn_i8; omega)]
      exact hnx10 _ _ _ _ (fun kk => by kernel_rfl) h
    · replace h := ifT h hb13
      conv => lhs; whnf
      try (rw [decide_eq_true hq_x11]; conv => lhs; whnf)
      rw [hx_x11]
      conv => lhs; whnf
      rw [hx_x11]
      conv => lhs; whnf
      obtain ⟨y14, h_y14, h⟩ := callK_inv h
      rw [cl_eq hcl (L_spec_l17Into x11 v9 h_y14)]
      rotate_left
      · show _ = _
        kernel_rfl
      · show _ = _
        kernel_rfl
      conv => lhs; whnf
      rw [wrap_nat i8 (by have := hn_i8; omega)]
      exact hnx10 _ _ _ _ (fun kk => by kernel_rfl) h
  · clear h
    rintro next_nx10 v9 r h
    try dsimp only at h
    have hd_i8 : (decide ((a_0.length : Int) < (a_0.length : Int))) = false := decide_eq_false (by omega)
    conv => lhs; whnf
    try rw [len_of (l := a_0) (r := rRecord)]
    rw [hd_i8]
    conv => lhs; whnf
    obtain rfl := Option.some.inj h
    show _ = _
    kernel_rfl

noncomputable def p_spec_SortRecords (a_0 : List Record) : Option (List Record) :=
  callK (p_spec_l17Sort a_0) fun y1 =>
  some y1

set_option maxHeartbeats 4000000 in
theorem L_spec_SortRecords (a_0 : List Record) {r : (List Record)} (h : p_spec_SortRecords a_0 = some r) : callL E 177 [.d (.arr (a_0.map rRecord))] ([] : Fo) = some (.sl 0, ([some (.arr 30 5 (r.map rRecord))] : Fo)) := by
  unfold p_spec_SortRecords at h
  refine callW (fu := Try.f177) rfl rfl rfl NN ?_
  intro lp cl hlp hcl
  conv => lhs; whnf
  obtain ⟨y1, h_y1, h⟩ := callK_inv h
  rw [cl_eq hcl (L_spec_l17Sort a_0 h_y1)]
  rotate_left
  · show _ = _
    kernel_rfl
  · show _ = _
    kernel_rfl
  conv => lhs; whnf
  obtain rfl := Option.some.inj h
  show _ = _
  kernel_rfl

noncomputable def p_spec_l26DrawRun (a_0 : Int) (a_1 : Int) (a_2 : Sl00Src) : Option (Sl00Src × (List Record)) :=
  grd (a_1 < 4611686018427387904) <|
  forI a_1 (fun (i11 : Nat) ((v12, v13) : (Sl00Src × (List Record))) (nx14 : (Sl00Src × (List Record)) → Option _) =>
    callK (p_spec_l00Src_text v12 ([(⟨#[97]⟩ : ByteArray), (⟨#[98]⟩ : ByteArray), (⟨#[99]⟩ : ByteArray), (⟨#[99, 99]⟩ : ByteArray), (⟨#[100]⟩ : ByteArray), (⟨#[101]⟩ : ByteArray), (⟨#[102]⟩ : ByteArray)] : List ByteArray)) fun y15 =>
    callK (p_spec_l00Src_pick 8 y15.2) fun y16 =>
    if y16.1 = 0 then
      grd (appOk (v13.length + 1) 64 = true) <|
      nx14 (y16.2, (v13 ++ ([(⟨y15.1, (IntKind.i64.wrap (a_0 + (i11 : Int))), 2, (⟨#[]⟩ : ByteArray), (⟨#[]⟩ : ByteArray)⟩ : Record)] : List Record)))
    else
      if y16.1 = 1 then
        callK (p_spec_l00Src_text y16.2 ([(⟨#[97]⟩ : ByteArray), (⟨#[122]⟩ : ByteArray)] : List ByteArray)) fun y19 =>
        grd (((ByteArray.size y15.1 + ByteArray.size y19.1 : Nat) : Int) ≤ 9223372036854775807) <|
        grd (appOk (v13.length + 1) 64 = true) <|
        nx14 (y19.2, (v13 ++ ([(⟨y15.1, (IntKind.i64.wrap (a_0 + (i11 : Int))), 3, (⟨#[]⟩ : ByteArray), (y15.1 ++ y19.1)⟩ : Record)] : List Record)))
      else
        callK (p_spec_l00Src_text y16.2 ([(⟨#[]⟩ : ByteArray), (⟨#[49]⟩ : ByteArray), (⟨#[118, 97, 108, 117, 101]⟩ : ByteArray)] : List ByteArray)) fun y20 =>
        grd (appOk (v13.length + 1) 64 = true) <|
        nx14 (y20.2, (v13 ++ ([(⟨y15.1, (IntKind.i64.wrap (a_0 + (i11 : Int))), 1, y20.1, (⟨#[]⟩ : ByteArray)⟩ : Record)] : List Record)))) (a_2, ([] : List Record)) (fun ((v12, v13) : (Sl00Src × (List Record))) =>
    callK (p_spec_SortRecords v13) fun y21 =>
    some (v12, y21))

set_option maxHeartbeats 4000000 in
theorem L_spec_l26DrawRun (a_0 : Int) (a_1 : Int) (a_2 : Sl00Src) {r : (Sl00Src × (List Record))} (h : p_spec_l26DrawRun a_0 a_1 a_2 = some r) : callL E 175 [.bp 0 0, IN a_0, IN a_1] ([some (.box [.d (.arr (a_2.Code.map rU)), IN a_2.At, .d (.lit (.int .u64 a_2.Seed))])] : Fo) = some (.sl 1, ([some (.box [.d (.arr (r.1.Code.map rU)), IN r.1.At, .d (.lit (.int .u64 r.1.Seed))]), some (.arr 30 5 (r.2.map rRecord))] : Fo)) := by
  unfold p_spec_l26DrawRun at h
  refine callW (fu := Try.f175) rfl rfl rfl NN ?_
  intro lp cl hlp hcl
  conv => lhs; whnf
  obtain ⟨hl_i11, h⟩ := grd_inv h
  refine loop_forI hlp (n := a_1) hl_i11 (fun (i11 : Nat) ((v12, v13) : (Sl00Src × (List Record))) => ([.bp 0 0, IN a_0, IN a_1, .dead, .dead, .dead, .dead, .sl 1, IN (i11 : Int)] ++ List.replicate 39 .dead : List V)) (fun (i11 : Nat) ((v12, v13) : (Sl00Src × (List Record))) => ([some (.box [.d (.arr (v12.Code.map rU)), IN v12.At, .d (.lit (.int .u64 v12.Seed))]), some (.arr 30 5 (v13.map rRecord))] : Fo)) (fun (r : (Sl00Src × (List Record))) => ((.sl 1 : V), ([some (.box [.d (.arr (r.1.Code.map rU)), IN r.1.At, .d (.lit (.int .u64 r.1.Seed))]), some (.arr 30 5 (r.2.map rRecord))] : Fo))) ?_ ?_ (a_2, ([] : List Record)) _ (fun kk => by kernel_rfl) h
  · clear h
    rintro next_nx14 nx14 i11 hi_i11 hnx14 ⟨v12, v13⟩ r h
    try dsimp only at h
    have hn_i11 : i11 < 4611686018427387904 := by omega
    have hd_i11 : (decide ((i11 : Int) < a_1)) = true := decide_eq_true (by omega)
    conv => lhs; whnf
    rw [hd_i11]
    conv => lhs; whnf
    obtain ⟨y15, h_y15, h⟩ := callK_inv h
    rw [cl_eq hcl (L_spec_l00Src_text v12 ([(⟨#[97]⟩ : ByteArray), (⟨#[98]⟩ : ByteArray), (⟨#[99]⟩ : ByteArray), (⟨#[99, 99]⟩ : ByteArray), (⟨#[100]⟩ : ByteArray), (⟨#[101]⟩ : ByteArray), (⟨#[102]⟩ : ByteArray)] : List ByteArray) h_y15)]
    rotate_left
    · show _ = _
      kernel_rfl
    · show _ = _
      kernel_rfl
    conv => lhs; whnf
    obtain ⟨y16, h_y16, h⟩ := callK_inv h
    rw [cl_eq hcl (L_spec_l00Src_pick 8 y15.2 h_y16)]
    rotate_left
    · show _ = _
      kernel_rfl
    · show _ = _
      kernel_rfl
    conv => lhs; whnf
    cases hb17 : (y16.1 == 0)
    · replace h := ifF h (beqF hb17)
      conv => lhs; whnf
      cases hb18 : (y16.1 == 1)
      · replace h := ifF h (beqF hb18)
        conv => lhs; whnf
        obtain ⟨y20, h_y20, h⟩ := callK_inv h
        rw [cl_eq hcl (L_spec_l00Src_text y16.2 ([(⟨#[]⟩ : ByteArray), (⟨#[49]⟩ : ByteArray), (⟨#[118, 97, 108, 117, 101]⟩ : ByteArray)] : List ByteArray) h_y20)]
        rotate_left
        · show _ = _
          kernel_rfl
        · show _ = _
          kernel_rfl
        conv => lhs; whnf
        obtain ⟨hg22, h⟩ := grd_inv h
        rw [app_eq hg22 ?h1 ?h2]
        case h1 => first | exact rfl | (simp only [List.length_map, List.length_cons, List.length_nil]; done) | (rw [List.length_map]; rfl)
        case h2 => exact rfl
        conv => lhs; whnf
        first | (rw [map_app_of (r := rRecord) (l := v13) (m := ([(⟨y15.1, (IntKind.i64.wrap (a_0 + (i11 : Int))), 1, y20.1, (⟨#[]⟩ : ByteArray)⟩ : Record)] : List Record)) ?hh]; case hh => exact rfl) | skip
        rw [wrap_nat i11 (by have := hn_i11; omega)]
        exact hnx14 _ _ _ _ (fun kk => by kernel_rfl) h
      · replace h := ifT h (beqT hb18)
        conv => lhs; whnf
        obtain ⟨y19, h_y19, h⟩ := callK_inv h
        rw [cl_eq hcl (L_spec_l00Src_text y16.2 ([(⟨#[97]⟩ : ByteArray), (⟨#[122]⟩ : ByteArray)] : List ByteArray) h_y19)]
        rotate_left
        · show _ = _
          kernel_rfl
        · show _ = _
          kernel_rfl
        conv => lhs; whnf
        obtain ⟨hg23, h⟩ := grd_inv h
        rw [cat_run _ _ _ hg23]
        conv => lhs; whnf
        obtain ⟨hg24, h⟩ := grd_inv h
        rw [app_eq hg24 ?h1 ?h2]
        case h1 => first | exact rfl | (simp only [List.length_map, List.length_cons, List.length_nil]; done) | (rw [List.length_map]; rfl)
        case h2 => exact rfl
        conv => lhs; whnf
        first | (rw [map_app_of (r := rRecord) (l := v13) (m := ([(⟨y15.1, (IntKind.i64.wrap (a_0 + (i11 : Int))), 3, (⟨#[]⟩ : ByteArray), (y15.1 ++ y19.1)⟩ : Record)] : List Record)) ?hh]; case hh => exact rfl) | skip
        rw [wrap_nat i11 (by have := hn_i11; omega)]
        exact hnx14 _ _ _ _ (fun kk => by kernel_rfl) h
    · replace h := ifT h (beqT hb17)
      conv => lhs; whnf
      obtain ⟨hg25, h⟩ := grd_inv h
      rw [app_eq hg25 ?h1 ?h2]
      case h1 => first | exact rfl | (simp only [List.length_map, List.length_cons, List.length_nil]; done) | (rw [List.length_map]; rfl)
      case h2 => exact rfl
      conv => lhs; whnf
      first | (rw [map_app_of (r := rRecord) (l := v13) (m := ([(⟨y15.1, (IntKind.i64.wrap (a_0 + (i11 : Int))), 2, (⟨#[]⟩ : ByteArray), (⟨#[]⟩ : ByteArray)⟩ : Record)] : List Record)) ?hh]; case hh => exact rfl) | skip
      rw [wrap_nat i11 (by have := hn_i11; omega)]
      exact hnx14 _ _ _ _ (fun kk => by kernel_rfl) h
  · clear h
    rintro next_nx14 ⟨v12, v13⟩ r h
    try dsimp only at h
    have hd_i11 : (decide (((Int.toNat a_1) : Int) < a_1)) = false := decide_eq_false (by omega)
    conv => lhs; whnf
    rw [hd_i11]
    conv => lhs; whnf
    obtain ⟨y21, h_y21, h⟩ := callK_inv h
    rw [cl_eq hcl (L_spec_SortRecords v13 h_y21)]
    rotate_left
    · show _ = _
      kernel_rfl
    · show _ = _
      kernel_rfl
    conv => lhs; whnf
    obtain rfl := Option.some.inj h
    show _ = _
    kernel_rfl

noncomputable def p_spec_l26Spoiled (a_0 : Sl00Src) : Option ((List Record) × Sl00Src) :=
  callK (p_spec_l00Src_pick 9 a_0) fun y1 =>
  callK (p_spec_l26DrawRun 1 y1.1 y1.2) fun y2 =>
  if (y2.2.length : Int) > 1 then
    callK (p_spec_l00Src_one 8 y2.1) fun y4 =>
    if y4.1 = true then
      getK y2.2 0 fun x6 =>
      some ((y2.2.set (Int.toNat 0) (⟨(⟨#[122, 122]⟩ : ByteArray), x6.Seq, x6.Kind, x6.Value, x6.End⟩ : Record)), y4.2)
    else
      some (y2.2, y4.2)
  else
    some (y2.2, y2.1)

set_option maxHeartbeats 4000000 in
theorem L_spec_l26Spoiled (a_0 : Sl00Src) {r : ((List Record) × Sl00Src)} (h : p_spec_l26Spoiled a_0 = some r) : callL E 91 [.bp 0 0] ([some (.box [.d (.arr (a_0.Code.map rU)), IN a_0.At, .d (.lit (.int .u64 a_0.Seed))])] : Fo) = some (.d (.arr (r.1.map rRecord)), ([some (.box [.d (.arr (r.2.Code.map rU)), IN r.2.At, .d (.lit (.int .u64 r.2.Seed))])] : Fo)) := by
  unfold p_spec_l26Spoiled at h
  refine callW (fu := Try.f91) rfl rfl rfl NN ?_
  intro lp cl hlp hcl
  conv => lhs; whnf
  obtain ⟨y1, h_y1, h⟩ := callK_inv h
  rw [cl_eq hcl (L_spec_l00Src_pick 9 a_0 h_y1)]
  rotate_left
  · show _ = _
    kernel_rfl
  · show _ = _
    kernel_rfl
  conv => lhs; whnf
  obtain ⟨y2, h_y2, h⟩ := callK_inv h
  rw [cl_eq hcl (L_spec_l26DrawRun 1 y1.1 y1.2 h_y2)]
  rotate_left
  · show _ = _
    kernel_rfl
  · show _ = _
    kernel_rfl
  conv => lhs; whnf
  try rw [len_of (l := y2.2) (r := rRecord)]
  cases hb3 : (decide ((y2.2.length : Int) > 1))
  · replace h := ifF h (decF hb3)
    conv => lhs; whnf
    try (rw [hb3]; conv => lhs; whnf)
    try (rw [hb3]; conv => lhs; whnf)
    obtain rfl := Option.some.inj h
    show _ = _
    kernel_rfl
  · replace h := ifT h (decT hb3)
    conv => lhs; whnf
    try (rw [hb3]; conv => lhs; whnf)
    obtain ⟨y4, h_y4, h⟩ := callK_inv h
    rw [cl_eq hcl (L_spec_l00Src_one 8 y2.1 h_y4)]
    rotate_left
    · show _ = _
      kernel_rfl
    · show _ = _
      kernel_rfl
    conv => lhs; whnf
    try (rw [hb3]; conv => lhs; whnf)
    cases hb5 : y4.1
    · replace h := ifF h (booF hb5)
      conv => lhs; whnf
      obtain rfl := Option.some.inj h
      show _ = _
      kernel_rfl
    · replace h := ifT h hb5
      conv => lhs; whnf
      obtain ⟨x6, hq_x6, hx_x6', h⟩ := getK_inv h
      have hx_x6 := get_of (r := rRecord) hx_x6'
      try (rw [decide_eq_true hq_x6]; conv => lhs; whnf)
      rw [hx_x6]
      conv => lhs; whnf
      rw [hx_x6]
      conv => lhs; whnf
      first | (rw [map_set_of (r := rRecord) (l := y2.2) (x := (⟨(⟨#[122, 122]⟩ : ByteArray), x6.Seq, x6.Kind, x6.Value, x6.End⟩ : Record)) ?hh]; case hh => exact rfl) | skip
      obtain rfl := Option.some.inj h
      show _ = _
      kernel_rfl

noncomputable def p_spec_l26DrawLong (a_0 : Sl00Src) : Option ((List Record) × Sl00Src) :=
  callK (p_spec_l00Src_among ([0, 3, 16, 17, 20, 40, 61, 70] : List Int) a_0) fun y1 =>
  grd (y1.1 < 4611686018427387904) <|
  forI y1.1 (fun (i5 : Nat) (v6 : List Record) (nx7 : (List Record) → Option _) =>
    grd (appOk (v6.length + 1) 64 = true) <|
    nx7 (v6 ++ ([(⟨(bytesOf (([(IntKind.u8.wrap (IntKind.i64.wrap (97 + (Int.tmod (i5 : Int) 26)))), (IntKind.u8.wrap (IntKind.i64.wrap (97 + (IntKind.i64.wrap (Int.tdiv (i5 : Int) 26)))))] : List Int).map rU)), (IntKind.i64.wrap (1 + (i5 : Int))), 1, (⟨#[118]⟩ : ByteArray), (⟨#[]⟩ : ByteArray)⟩ : Record)] : List Record))) ([] : List Record) (fun (v6 : List Record) =>
    callK (p_spec_l00Src_one 3 y1.2) fun y8 =>
    if y8.1 = true then
      callK (p_spec_l00Src_text y8.2 ([(⟨#[100]⟩ : ByteArray), (⟨#[109]⟩ : ByteArray), (⟨#[122, 122]⟩ : ByteArray)] : List ByteArray)) fun y10 =>
      grd (appOk (v6.length + 1) 64 = true) <|
      callK (p_spec_SortRecords (v6 ++ ([(⟨(⟨#[99]⟩ : ByteArray), 90, 3, (⟨#[]⟩ : ByteArray), y10.1⟩ : Record)] : List Record))) fun y11 =>
      some (y11, y10.2)
    else
      callK (p_spec_SortRecords v6) fun y12 =>
      some (y12, y8.2))

set_option maxHeartbeats 4000000 in
theorem L_spec_l26DrawLong (a_0 : Sl00Src) {r : ((List Record) × Sl00Src)} (h : p_spec_l26DrawLong a_0 = some r) : callL E 92 [.bp 0 0] ([some (.box [.d (.arr (a_0.Code.map rU)), IN a_0.At, .d (.lit (.int .u64 a_0.Seed))])] : Fo) = some (.d (.arr (r.1.map rRecord)), ([some (.box [.d (.arr (r.2.Code.map rU)), IN r.2.At, .d (.lit (.int .u64 r.2.Seed))])] : Fo)) := by
  unfold p_spec_l26DrawLong at h
  refine callW (fu := Try.f92) rfl rfl rfl NN ?_
  intro lp cl hlp hcl
  conv => lhs; whnf
  obtain ⟨y1, h_y1, h⟩ := callK_inv h
  rw [cl_eq hcl (L_spec_l00Src_among ([0, 3, 16, 17, 20, 40, 61, 70] : List Int) a_0 h_y1)]
  rotate_left
  · show _ = _
    kernel_rfl
  · show _ = _
    kernel_rfl
  conv => lhs; whnf
  obtain ⟨hl_i5, h⟩ := grd_inv h
  refine loop_forI hlp (n := y1.1) hl_i5 (fun (i5 : Nat) (v6 : List Record) => ([.bp 0 0, .dead, .dead, .sl 1, IN y1.1, IN (i5 : Int)] ++ List.replicate 38 .dead : List V)) (fun (i5 : Nat) (v6 : List Record) => ([some (.box [.d (.arr (y1.2.Code.map rU)), IN y1.2.At, .d (.lit (.int .u64 y1.2.Seed))]), some (.arr 30 5 (v6.map rRecord))] : Fo)) (fun (r : ((List Record) × Sl00Src)) => ((.d (.arr (r.1.map rRecord)) : V), ([some (.box [.d (.arr (r.2.Code.map rU)), IN r.2.At, .d (.lit (.int .u64 r.2.Seed))])] : Fo))) ?_ ?_ ([] : List Record) _ (fun kk => by kernel_rfl) h
  · clear h
    rintro next_nx7 nx7 i5 hi_i5 hnx7 v6 r h
    try dsimp only at h
    have hn_i5 : i5 < 4611686018427387904 := by omega
    have hd_i5 : (decide ((i5 : Int) < y1.1)) = true := decide_eq_true (by omega)
    conv => lhs; whnf
    rw [hd_i5]
    conv => lhs; whnf
    try (rw [rem_run _ _ _ 26 (by decide)]; conv => lhs; whnf)
    conv => lhs; whnf
    try (rw [quo_run _ _ _ 26 (by decide)]; conv => lhs; whnf)
    conv => lhs; whnf
    try rw [byteRows_rU]
    conv => lhs; whnf
    obtain ⟨hg13, h⟩ := grd_inv h
    rw [app_eq hg13 ?h1 ?h2]
    case h1 => first | exact rfl | (simp only [List.length_map, List.length_cons, List.length_nil]; done) | (rw [List.length_map]; rfl)
    case h2 => exact rfl
    conv => lhs; whnf
    first | (rw [map_app_of (r := rRecord) (l := v6) (m := ([(⟨(bytesOf (([(IntKind.u8.wrap (IntKind.i64.wrap (97 + (Int.tmod (i5 : Int) 26)))), (IntKind.u8.wrap (IntKind.i64.wrap (97 + (IntKind.i64.wrap (Int.tdiv (i5 : Int) 26)))))] : List Int).map rU)), (IntKind.i64.wrap (1 + (i5 : Int))), 1, (⟨#[118]⟩ : ByteArray), (⟨#[]⟩ : ByteArray)⟩ : Record)] : List Record)) ?hh]; case hh => exact rfl) | skip
    rw [wrap_nat i5 (by have := hn_i5; omega)]
    exact hnx7 _ _ _ _ (fun kk => by kernel_rfl) h
  · clear h
    rintro next_nx7 v6 r h
    try dsimp only at h
    have hd_i5 : (decide (((Int.toNat y1.1) : Int) < y1.1)) = false := decide_eq_false (by omega)
    conv => lhs; whnf
    rw [hd_i5]
    conv => lhs; whnf
    obtain ⟨y8, h_y8, h⟩ := callK_inv h
    rw [cl_eq hcl (L_spec_l00Src_one 3 y1.2 h_y8)]
    rotate_left
    · show _ = _
      kernel_rfl
    · show _ = _
      kernel_rfl
    conv => lhs; whnf
    cases hb9 : y8.1
    · replace h := ifF h (booF hb9)
      conv => lhs; whnf
      obtain ⟨y12, h_y12, h⟩ := callK_inv h
      rw [cl_eq hcl (L_spec_SortRecords v6 h_y12)]
      rotate_left
      · show _ = _
        kernel_rfl
      · show _ = _
        kernel_rfl
      conv => lhs; whnf
      obtain rfl := Option.some.inj h
      show _ = _
      kernel_rfl
    · replace h := ifT h hb9
      conv => lhs; whnf
      obtain ⟨y10, h_y10, h⟩ := callK_inv h
      rw [cl_eq hcl (L_spec_l00Src_text y8.2 ([(⟨#[100]⟩ : ByteArray), (⟨#[109]⟩ : ByteArray), (⟨#[122, 122]⟩ : ByteArray)] : List ByteArray) h_y10)]
      rotate_left
      · show _ = _
        kernel_rfl
      · show _ = _
        kernel_rfl
      conv => lhs; whnf
      obtain ⟨hg14, h⟩ := grd_inv h
      rw [app_eq hg14 ?h1 ?h2]
      case h1 => first | exact rfl | (simp only [List.length_map, List.length_cons, List.length_nil]; done) | (rw [List.length_map]; rfl)
      case h2 => exact rfl
      conv => lhs; whnf
      first | (rw [map_app_of (r := rRecord) (l := v6) (m := ([(⟨(⟨#[99]⟩ : ByteArray), 90, 3, (⟨#[]⟩ : ByteArray), y10.1⟩ : Record)] : List Record)) ?hh]; case hh => exact rfl) | skip
      obtain ⟨y11, h_y11, h⟩ := callK_inv h
      rw [cl_eq hcl (L_spec_SortRecords (v6 ++ ([(⟨(⟨#[99]⟩ : ByteArray), 90, 3, (⟨#[]⟩ : ByteArray), y10.1⟩ : Record)] : List Record)) h_y11)]
      rotate_left
      · show _ = _
        kernel_rfl
      · show _ = _
        kernel_rfl
      conv => lhs; whnf
      obtain rfl := Option.some.inj h
      show _ = _
      kernel_rfl

noncomputable def p_spec_DrawSplitRun (a_0 : List Int) : Option (List Record) :=
  callK (p_spec_l00From a_0) fun y1 =>
  callK (p_spec_l00Src_one 4 y1) fun y2 =>
  if y2.1 = true then
    callK (p_spec_l26Spoiled y2.2) fun y4 =>
    some y4.1
  else
    callK (p_spec_l26DrawLong y2.2) fun y5 =>
    some y5.1

set_option maxHeartbeats 4000000 in
theorem L_spec_DrawSplitRun (a_0 : List Int) {r : (List Record)} (h : p_spec_DrawSplitRun a_0 = some r) : callL E 24 [.d (.arr (a_0.map rU))] ([] : Fo) = some (.d (.arr (r.map rRecord)), ([] : Fo)) := by
  unfold p_spec_DrawSplitRun at h
  refine callW (fu := Try.f24) rfl rfl rfl NN ?_
  intro lp cl hlp hcl
  conv => lhs; whnf
  obtain ⟨y1, h_y1, h⟩ := callK_inv h
  rw [cl_eq hcl (L_spec_l00From a_0 h_y1)]
  rotate_left
  · show _ = _
    kernel_rfl
  · show _ = _
    kernel_rfl
  conv => lhs; whnf
  obtain ⟨y2, h_y2, h⟩ := callK_inv h
  rw [cl_eq hcl (L_spec_l00Src_one 4 y1 h_y2)]
  rotate_left
  · show _ = _
    kernel_rfl
  · show _ = _
    kernel_rfl
  conv => lhs; whnf
  cases hb3 : y2.1
  · replace h := ifF h (booF hb3)
    conv => lhs; whnf
    obtain ⟨y5, h_y5, h⟩ := callK_inv h
    rw [cl_eq hcl (L_spec_l26DrawLong y2.2 h_y5)]
    rotate_left
    · show _ = _
      kernel_rfl
    · show _ = _
      kernel_rfl
    conv => lhs; whnf
    obtain rfl := Option.some.inj h
    show _ = _
    kernel_rfl
  · replace h := ifT h hb3
    conv => lhs; whnf
    obtain ⟨y4, h_y4, h⟩ := callK_inv h
    rw [cl_eq hcl (L_spec_l26Spoiled y2.2 h_y4)]
    rotate_left
    · show _ = _
      kernel_rfl
    · show _ = _
      kernel_rfl
    conv => lhs; whnf
    obtain rfl := Option.some.inj h
    show _ = _
    kernel_rfl

noncomputable def p_impl_ValidKey (a_0 : ByteArray) : Option Bool :=
  some (inR (ByteArray.size a_0 : Int) 1 8)

set_option maxHeartbeats 4000000 in
theorem L_impl_ValidKey (a_0 : ByteArray) {r : Bool} (h : p_impl_ValidKey a_0 = some r) : callL E 119 [ST a_0] ([] : Fo) = some (BO r, ([] : Fo)) := by
  unfold p_impl_ValidKey at h
  refine callW (fu := Try.f119) rfl rfl rfl NN ?_
  intro lp cl hlp hcl
  conv => lhs; whnf
  rw [cl_eq hcl (L_impl_within (ByteArray.size a_0 : Int) 1 8 (pl_within (ByteArray.size a_0 : Int) 1 8))]
  rotate_left
  · show _ = _
    kernel_rfl
  · show _ = _
    kernel_rfl
  conv => lhs; whnf
  obtain rfl := Option.some.inj h
  show _ = _
  kernel_rfl

noncomputable def p_impl_ValidRecord (a_0 : Record) : Option Bool :=
  callK (p_impl_ValidKey a_0.Key) fun y1 =>
  if y1 = true then
    if (inR a_0.Seq 1 1000000) = true then
      if a_0.Kind = 1 then
        if (ByteArray.size a_0.Value : Int) ≤ 16 then
          some (a_0.End.toList == (⟨#[]⟩ : ByteArray).toList)
        else
          some false
      else
        if a_0.Kind = 2 then
          if (a_0.Value.toList == (⟨#[]⟩ : ByteArray).toList) = true then
            some (a_0.End.toList == (⟨#[]⟩ : ByteArray).toList)
          else
            some false
        else
          if a_0.Kind = 3 then
            if (a_0.Value.toList == (⟨#[]⟩ : ByteArray).toList) = true then
              callK (p_impl_ValidKey a_0.End) fun y10 =>
              if y10 = true then
                some (!((Op.bytesLess a_0.End.toList a_0.Key.toList) || (a_0.End.toList == a_0.Key.toList)))
              else
                some false
            else
              some false
          else
            some false
    else
      some false
  else
    some false

set_option maxHeartbeats 4000000 in
theorem L_impl_ValidRecord (a_0 : Record) {r : Bool} (h : p_impl_ValidRecord a_0 = some r) : callL E 88 [.agg [ST a_0.Key, IN a_0.Seq, IN a_0.Kind, ST a_0.Value, ST a_0.End]] ([] : Fo) = some (BO r, ([] : Fo)) := by
  unfold p_impl_ValidRecord at h
  refine callW (fu := Try.f88) rfl rfl rfl NN ?_
  intro lp cl hlp hcl
  conv => lhs; whnf
  obtain ⟨y1, h_y1, h⟩ := callK_inv h
  rw [cl_eq hcl (L_impl_ValidKey a_0.Key h_y1)]
  rotate_left
  · show _ = _
    kernel_rfl
  · show _ = _
    kernel_rfl
  conv => lhs; whnf
  cases hb2 : y1
  · replace h := ifF h (booF hb2)
    conv => lhs; whnf
    try (rw [hb2]; conv => lhs; whnf)
    try (rw [hb2]; conv => lhs; whnf)
    try (rw [hb2]; conv => lhs; whnf)
    try (rw [hb2]; conv => lhs; whnf)
    obtain rfl := Option.some.inj h
    show _ = _
    kernel_rfl
  · replace h := ifT h hb2
    try rw [hb2] at h
    conv => lhs; whnf
    try (rw [hb2]; conv => lhs; whnf)
    try (rw [hb2]; conv => lhs; whnf)
    rw [cl_eq hcl (L_impl_within a_0.Seq 1 1000000 (pl_within a_0.Seq 1 1000000))]
    rotate_left
    · show _ = _
      kernel_rfl
    · show _ = _
      kernel_rfl
    conv => lhs; whnf
    try (rw [hb2]; conv => lhs; whnf)
    try (rw [hb2]; conv => lhs; whnf)
    cases hb3 : (inR a_0.Seq 1 1000000)
    · replace h := ifF h (booF hb3)
      conv => lhs; whnf
      obtain rfl := Option.some.inj h
      show _ = _
      kernel_rfl
    · replace h := ifT h hb3
      conv => lhs; whnf
      cases hb4 : (a_0.Kind == 1)
      · replace h := ifF h (beqF hb4)
        conv => lhs; whnf
        cases hb6 : (a_0.Kind == 2)
        · replace h := ifF h (beqF hb6)
          conv => lhs; whnf
          cases hb8 : (a_0.Kind == 3)
          · replace h := ifF h (beqF hb8)
            conv => lhs; whnf
            obtain rfl := Option.some.inj h
            show _ = _
            kernel_rfl
          · replace h := ifT h (beqT hb8)
            conv => lhs; whnf
            cases hb9 : (a_0.Value.toList == (⟨#[]⟩ : ByteArray).toList)
            · replace h := ifF h (booF hb9)
              conv => lhs; whnf
              try (rw [hb9]; conv => lhs; whnf)
              try (rw [hb9]; conv => lhs; whnf)
              try (rw [hb9]; conv => lhs; whnf)
              obtain rfl := Option.some.inj h
              show _ = _
              kernel_rfl
            · replace h := ifT h hb9
              conv => lhs; whnf
              try (rw [hb9]; conv => lhs; whnf)
              try (rw [hb9]; conv => lhs; whnf)
              obtain ⟨y10, h_y10, h⟩ := callK_inv h
              rw [cl_eq hcl (L_impl_ValidKey a_0.End h_y10)]
              rotate_left
              · show _ = _
                kernel_rfl
              · show _ = _
                kernel_rfl
              conv => lhs; whnf
              try (rw [hb9]; conv => lhs; whnf)
              cases hb11 : y10
              · replace h := ifF h (booF hb11)
                conv => lhs; whnf
                try (rw [hb11]; conv => lhs; whnf)
                try (rw [hb11]; conv => lhs; whnf)
                try (rw [hb11]; conv => lhs; whnf)
                try (rw [hb11]; conv => lhs; whnf)
                try (rw [hb11]; conv => lhs; whnf)
                obtain rfl := Option.some.inj h
                show _ = _
                kernel_rfl
              · replace h := ifT h hb11
                conv => lhs; whnf
                try (rw [hb11]; conv => lhs; whnf)
                try (rw [hb11]; conv => lhs; whnf)
                try (rw [hb11]; conv => lhs; whnf)
                try (rw [hb11]; conv => lhs; whnf)
                try (rw [hb11]; conv => lhs; whnf)
                obtain rfl := Option.some.inj h
                show _ = _
                kernel_rfl
        · replace h := ifT h (beqT hb6)
          conv => lhs; whnf
          cases hb7 : (a_0.Value.toList == (⟨#[]⟩ : ByteArray).toList)
          · replace h := ifF h (booF hb7)
            conv => lhs; whnf
            try (rw [hb7]; conv => lhs; whnf)
            try (rw [hb7]; conv => lhs; whnf)
            try (rw [hb7]; conv => lhs; whnf)
            obtain rfl := Option.some.inj h
            show _ = _
            kernel_rfl
          · replace h := ifT h hb7
            conv => lhs; whnf
            try (rw [hb7]; conv => lhs; whnf)
            try (rw [hb7]; conv => lhs; whnf)
            try (rw [hb7]; conv => lhs; whnf)
            obtain rfl := Option.some.inj h
            show _ = _
            kernel_rfl
      · replace h := ifT h (beqT hb4)
        conv => lhs; whnf
        cases hb5 : (decide ((ByteArray.size a_0.Value : Int) ≤ 16))
        · replace h := ifF h (decF hb5)
          conv => lhs; whnf
          try (rw [hb5]; conv => lhs; whnf)
          try (rw [hb5]; conv => lhs; whnf)
          try (rw [hb5]; conv => lhs; whnf)
          obtain rfl := Option.some.inj h
          show _ = _
          kernel_rfl
        · replace h := ifT h (decT hb5)
          conv => lhs; whnf
          try (rw [hb5]; conv => lhs; whnf)
          try (rw [hb5]; conv => lhs; whnf)
          try (rw [hb5]; conv => lhs; whnf)
          obtain rfl := Option.some.inj h
          show _ = _
          kernel_rfl

noncomputable def p_cmp_isNaN (a_0 : Int) : Option Bool :=
  some (a_0 != a_0)

set_option maxHeartbeats 4000000 in
theorem L_cmp_isNaN (a_0 : Int) {r : Bool} (h : p_cmp_isNaN a_0 = some r) : callL E 234 [IN a_0] ([] : Fo) = some (BO r, ([] : Fo)) := by
  unfold p_cmp_isNaN at h
  refine callW (fu := Try.f234) rfl rfl rfl NN ?_
  intro lp cl hlp hcl
  conv => lhs; whnf
  obtain rfl := Option.some.inj h
  show _ = _
  kernel_rfl

noncomputable def p_cmp_Compare (a_0 : Int) (a_1 : Int) : Option Int :=
  callK (p_cmp_isNaN a_0) fun y1 =>
  callK (p_cmp_isNaN a_1) fun y2 =>
  if y1 = true then
    if y2 = true then
      some 0
    else
      some (-1)
  else
    if y2 = true then
      some 1
    else
      if a_0 < a_1 then
        some (-1)
      else
        if a_0 > a_1 then
          some 1
        else
          some 0

set_option maxHeartbeats 4000000 in
theorem L_cmp_Compare (a_0 : Int) (a_1 : Int) {r : Int} (h : p_cmp_Compare a_0 a_1 = some r) : callL E 206 [IN a_0, IN a_1] ([] : Fo) = some (IN r, ([] : Fo)) := by
  unfold p_cmp_Compare at h
  refine callW (fu := Try.f206) rfl rfl rfl NN ?_
  intro lp cl hlp hcl
  conv => lhs; whnf
  obtain ⟨y1, h_y1, h⟩ := callK_inv h
  rw [cl_eq hcl (L_cmp_isNaN a_0 h_y1)]
  rotate_left
  · show _ = _
    kernel_rfl
  · show _ = _
    kernel_rfl
  conv => lhs; whnf
  obtain ⟨y2, h_y2, h⟩ := callK_inv h
  rw [cl_eq hcl (L_cmp_isNaN a_1 h_y2)]
  rotate_left
  · show _ = _
    kernel_rfl
  · show _ = _
    kernel_rfl
  conv => lhs; whnf
  cases hb3 : y1
  · replace h := ifF h (booF hb3)
    conv => lhs; whnf
    cases hb5 : y2
    · replace h := ifF h (booF hb5)
      conv => lhs; whnf
      cases hb6 : (decide (a_0 < a_1))
      · replace h := ifF h (decF hb6)
        conv => lhs; whnf
        cases hb7 : (decide (a_0 > a_1))
        · replace h := ifF h (decF hb7)
          conv => lhs; whnf
          obtain rfl := Option.some.inj h
          show _ = _
          kernel_rfl
        · replace h := ifT h (decT hb7)
          conv => lhs; whnf
          obtain rfl := Option.some.inj h
          show _ = _
          kernel_rfl
      · replace h := ifT h (decT hb6)
        conv => lhs; whnf
        obtain rfl := Option.some.inj h
        show _ = _
        kernel_rfl
    · replace h := ifT h hb5
      conv => lhs; whnf
      obtain rfl := Option.some.inj h
      show _ = _
      kernel_rfl
  · replace h := ifT h hb3
    conv => lhs; whnf
    cases hb4 : y2
    · replace h := ifF h (booF hb4)
      conv => lhs; whnf
      obtain rfl := Option.some.inj h
      show _ = _
      kernel_rfl
    · replace h := ifT h hb4
      conv => lhs; whnf
      obtain rfl := Option.some.inj h
      show _ = _
      kernel_rfl

noncomputable def p_cmp_Or (a_0 : List Int) : Option Int :=
  grd (a_0.length < 4611686018427387904) <|
  forK a_0 (fun (i5 : Nat) x7 (_ : Unit) (nx6 : Unit → Option _) =>
    if ¬ x7 = 0 then
      some x7
    else
      nx6 ()) () (fun (_ : Unit) =>
    some 0)

set_option maxHeartbeats 4000000 in
theorem L_cmp_Or (a_0 : List Int) {r : Int} (h : p_cmp_Or a_0 = some r) : callL E 205 [.d (.arr (a_0.map rI))] ([] : Fo) = some (IN r, ([] : Fo)) := by
  unfold p_cmp_Or at h
  refine callW (fu := Try.f205) rfl rfl rfl NN ?_
  intro lp cl hlp hcl
  conv => lhs; whnf
  try rw [len_of (l := a_0) (r := rI)]
  obtain ⟨hl_i5, h⟩ := grd_inv h
  refine loop_for hlp (l := a_0) hl_i5 (fun (i5 : Nat) (_ : Unit) => ([.dead, .dead, .dead, IN 0, .dead, .dead, .d (.arr (a_0.map rI)), IN (a_0.length : Int), IN (i5 : Int)] ++ List.replicate 9 .dead : List V)) (fun (i5 : Nat) (_ : Unit) => ([] : Fo)) (fun (r : Int) => ((IN r : V), ([] : Fo))) ?_ ?_ () _ (fun kk => by kernel_rfl) h
  · clear h
    rintro next_nx6 nx6 i5 hi_i5 hnx6 ⟨⟩ r h
    try dsimp only at h
    have hn_i5 : i5 < 4611686018427387904 := by omega
    have hx_x7 := get_map rI a_0 i5 hi_i5
    generalize a_0[i5] = x7 at h hx_x7
    have hd_i5 : (decide ((i5 : Int) < (a_0.length : Int))) = true := decide_eq_true (by omega)
    conv => lhs; whnf
    rw [hd_i5]
    conv => lhs; whnf
    try (rw [decide_eq_true hq_x7]; conv => lhs; whnf)
    rw [hx_x7]
    conv => lhs; whnf
    rw [hx_x7]
    conv => lhs; whnf
    cases hb8 : (x7 != 0)
    · replace h := ifF h ((fun h => not_not_intro (bneF h)) hb8)
      conv => lhs; whnf
      rw [wrap_nat i5 (by have := hn_i5; omega)]
      exact hnx6 _ _ _ _ (fun kk => by kernel_rfl) h
    · replace h := ifT h (bneT hb8)
      conv => lhs; whnf
      obtain rfl := Option.some.inj h
      show _ = _
      kernel_rfl
  · clear h
    rintro next_nx6 ⟨⟩ r h
    try dsimp only at h
    have hd_i5 : (decide ((a_0.length : Int) < (a_0.length : Int))) = false := decide_eq_false (by omega)
    conv => lhs; whnf
    rw [hd_i5]
    conv => lhs; whnf
    obtain rfl := Option.some.inj h
    show _ = _
    kernel_rfl

noncomputable def p_impl_compareRecords (a_0 : Record) (a_1 : Record) : Option Int :=
  callK (p_cmp_Compare a_1.Seq a_0.Seq) fun y1 =>
  callK (p_cmp_Compare a_0.Kind a_1.Kind) fun y2 =>
  callK (p_cmp_Or ([(cmpB a_0.Key a_1.Key), y1, y2, (cmpB a_0.Value a_1.Value), (cmpB a_0.End a_1.End)] : List Int)) fun y3 =>
  some y3

set_option maxHeartbeats 4000000 in
theorem L_impl_compareRecords (a_0 : Record) (a_1 : Record) {r : Int} (h : p_impl_compareRecords a_0 a_1 = some r) : callL E 128 [.agg [ST a_0.Key, IN a_0.Seq, IN a_0.Kind, ST a_0.Value, ST a_0.End], .agg [ST a_1.Key, IN a_1.Seq, IN a_1.Kind, ST a_1.Value, ST a_1.End]] ([] : Fo) = some (IN r, ([] : Fo)) := by
  unfold p_impl_compareRecords at h
  refine callW (fu := Try.f128) rfl rfl rfl NN ?_
  intro lp cl hlp hcl
  conv => lhs; whnf
  rw [cl_eq hcl (f_Compare a_0.Key a_1.Key)]
  rotate_left
  · exact rfl
  · exact rfl
  conv => lhs; whnf
  obtain ⟨y1, h_y1, h⟩ := callK_inv h
  rw [cl_eq hcl (L_cmp_Compare a_1.Seq a_0.Seq h_y1)]
  rotate_left
  · show _ = _
    kernel_rfl
  · show _ = _
    kernel_rfl
  conv => lhs; whnf
  obtain ⟨y2, h_y2, h⟩ := callK_inv h
  rw [cl_eq hcl (L_cmp_Compare a_0.Kind a_1.Kind h_y2)]
  rotate_left
  · show _ = _
    kernel_rfl
  · show _ = _
    kernel_rfl
  conv => lhs; whnf
  rw [cl_eq hcl (f_Compare a_0.Value a_1.Value)]
  rotate_left
  · exact rfl
  · exact rfl
  conv => lhs; whnf
  rw [cl_eq hcl (f_Compare a_0.End a_1.End)]
  rotate_left
  · exact rfl
  · exact rfl
  conv => lhs; whnf
  obtain ⟨y3, h_y3, h⟩ := callK_inv h
  rw [cl_eq hcl (L_cmp_Or ([(cmpB a_0.Key a_1.Key), y1, y2, (cmpB a_0.Value a_1.Value), (cmpB a_0.End a_1.End)] : List Int) h_y3)]
  rotate_left
  · show _ = _
    kernel_rfl
  · show _ = _
    kernel_rfl
  conv => lhs; whnf
  obtain rfl := Option.some.inj h
  show _ = _
  kernel_rfl

noncomputable def p_impl_LessRecord (a_0 : Record) (a_1 : Record) : Option Bool :=
  callK (p_impl_compareRecords a_0 a_1) fun y1 =>
  some (decide (y1 < 0))

set_option maxHeartbeats 4000000 in
theorem L_impl_LessRecord (a_0 : Record) (a_1 : Record) {r : Bool} (h : p_impl_LessRecord a_0 a_1 = some r) : callL E 51 [.agg [ST a_0.Key, IN a_0.Seq, IN a_0.Kind, ST a_0.Value, ST a_0.End], .agg [ST a_1.Key, IN a_1.Seq, IN a_1.Kind, ST a_1.Value, ST a_1.End]] ([] : Fo) = some (BO r, ([] : Fo)) := by
  unfold p_impl_LessRecord at h
  refine callW (fu := Try.f51) rfl rfl rfl NN ?_
  intro lp cl hlp hcl
  conv => lhs; whnf
  obtain ⟨y1, h_y1, h⟩ := callK_inv h
  rw [cl_eq hcl (L_impl_compareRecords a_0 a_1 h_y1)]
  rotate_left
  · show _ = _
    kernel_rfl
  · show _ = _
    kernel_rfl
  conv => lhs; whnf
  obtain rfl := Option.some.inj h
  show _ = _
  kernel_rfl

noncomputable def p_impl_ValidRun (a_0 : List Record) : Option Bool :=
  grd (a_0.length < 4611686018427387904) <|
  forK a_0 (fun (i12 : Nat) x15 (v13 : List (Int × Bool)) (nx14 : (List (Int × Bool)) → Option _) =>
    callK (p_impl_ValidRecord x15) fun y16 =>
    if y16 = true then
      if (mgetT v13 x15.Seq false) = true then
        some false
      else
        if (i12 : Int) > 0 then
          getK a_0 (IntKind.i64.wrap ((i12 : Int) - 1)) fun x20 =>
          callK (p_impl_LessRecord x20 x15) fun y21 =>
          if y21 = true then
            nx14 (mputT v13 x15.Seq true)
          else
            some false
        else
          nx14 (mputT v13 x15.Seq true)
    else
      some false) ([] : List (Int × Bool)) (fun (v13 : List (Int × Bool)) =>
    some true)

set_option maxHeartbeats 4000000 in
theorem L_impl_ValidRun (a_0 : List Record) {r : Bool} (h : p_impl_ValidRun a_0 = some r) : callL E 20 [.d (.arr (a_0.map rRecord))] ([] : Fo) = some (BO r, ([] : Fo)) := by
  unfold p_impl_ValidRun at h
  refine callW (fu := Try.f20) rfl rfl rfl NN ?_
  intro lp cl hlp hcl
  conv => lhs; whnf
  try rw [len_of (l := a_0) (r := rRecord)]
  obtain ⟨hl_i12, h⟩ := grd_inv h
  refine loop_for hlp (l := a_0) hl_i12 (fun (i12 : Nat) (v13 : List (Int × Bool)) => ([.d (.arr (a_0.map rRecord)), .dead, .dead, .mp 0, .dead, .dead, .dead, .d (.arr (a_0.map rRecord)), IN (a_0.length : Int), IN (i12 : Int)] ++ List.replicate 31 .dead : List V)) (fun (i12 : Nat) (v13 : List (Int × Bool)) => ([some (.mp .i64 (mE dB v13))] : Fo)) (fun (r : Bool) => ((BO r : V), ([] : Fo))) ?_ ?_ ([] : List (Int × Bool)) _ (fun kk => by kernel_rfl) h
  · clear h
    rintro next_nx14 nx14 i12 hi_i12 hnx14 v13 r h
    try dsimp only at h
    have hn_i12 : i12 < 4611686018427387904 := by omega
    have hx_x15 := get_map rRecord a_0 i12 hi_i12
    generalize a_0[i12] = x15 at h hx_x15
    have hd_i12 : (decide ((i12 : Int) < (a_0.length : Int))) = true := decide_eq_true (by omega)
    conv => lhs; whnf
    rw [hd_i12]
    conv => lhs; whnf
    try (rw [decide_eq_true hq_x15]; conv => lhs; whnf)
    rw [hx_x15]
    conv => lhs; whnf
    rw [hx_x15]
    conv => lhs; whnf
    obtain ⟨y16, h_y16, h⟩ := callK_inv h
    rw [cl_eq hcl (L_impl_ValidRecord x15 h_y16)]
    rotate_left
    · show _ = _
      kernel_rfl
    · show _ = _
      kernel_rfl
    conv => lhs; whnf
    cases hb17 : y16
    · replace h := ifF h (booF hb17)
      conv => lhs; whnf
      try (rw [hb17]; conv => lhs; whnf)
      try (rw [hb17]; conv => lhs; whnf)
      try (rw [hb17]; conv => lhs; whnf)
      try (rw [hb17]; conv => lhs; whnf)
      obtain rfl := Option.some.inj h
      show _ = _
      kernel_rfl
    · replace h := ifT h hb17
      conv => lhs; whnf
      try (rw [hb17]; conv => lhs; whnf)
      try (rw [hb17]; conv => lhs; whnf)
      try (rw [hb17]; conv => lhs; whnf)
      try rw [mgetD_of (f := dB) (l := v13) (n := x15.Seq) (z := false)]
      try (rw [hb17]; conv => lhs; whnf)
      cases hb18 : (mgetT v13 x15.Seq false)
      · replace h := ifF h (booF hb18)
        conv => lhs; whnf
        try (rw [hb18]; conv => lhs; whnf)
        try (rw [hb18]; conv => lhs; whnf)
        cases hb19 : (decide ((i12 : Int) > 0))
        · replace h := ifF h (decF hb19)
          conv => lhs; whnf
          try (rw [hb19]; conv => lhs; whnf)
          try (rw [hb19]; conv => lhs; whnf)
          try (rw [hb19]; conv => lhs; whnf)
          try (rw [hb19]; conv => lhs; whnf)
          try (rw [hb19]; conv => lhs; whnf)
          try (rw [hb19]; conv => lhs; whnf)
          try (rw [hb19]; conv => lhs; whnf)
          try (rw [hb18]; conv => lhs; whnf)
          try (rw [hb19]; conv => lhs; whnf)
          try (rw [hb18]; conv => lhs; whnf)
          try rw [mput_of (f := dB) (l := v13) (n := x15.Seq) (x := true) (y := _) rfl]
          rw [wrap_nat i12 (by have := hn_i12; omega)]
          exact hnx14 _ _ _ _ (fun kk => by kernel_rfl) h
        · replace h := ifT h (decT hb19)
          conv => lhs; whnf
          try (rw [hb19]; conv => lhs; whnf)
          try (rw [hb19]; conv => lhs; whnf)
          try (rw [hb19]; conv => lhs; whnf)
          obtain ⟨x20, hq_x20, hx_x20', h⟩ := getK_inv h
          have hx_x20 := get_of (r := rRecord) hx_x20'
          try (rw [decide_eq_true hq_x20]; conv => lhs; whnf)
          rw [hx_x20]
          conv => lhs; whnf
          try (rw [hb19]; conv => lhs; whnf)
          rw [hx_x20]
          conv => lhs; whnf
          try (rw [hb19]; conv => lhs; whnf)
          try (rw [hb19]; conv => lhs; whnf)
          obtain ⟨y21, h_y21, h⟩ := callK_inv h
          rw [cl_eq hcl (L_impl_LessRecord x20 x15 h_y21)]
          rotate_left
          · show _ = _
            kernel_rfl
          · show _ = _
            kernel_rfl
          conv => lhs; whnf
          try (rw [hb19]; conv => lhs; whnf)
          try (rw [hb18]; conv => lhs; whnf)
          try (rw [hb19]; conv => lhs; whnf)
          try (rw [hb18]; conv => lhs; whnf)
          cases hb22 : y21
          · replace h := ifF h (booF hb22)
            conv => lhs; whnf
            obtain rfl := Option.some.inj h
            show _ = _
            kernel_rfl
          · replace h := ifT h hb22
            conv => lhs; whnf
            try rw [mput_of (f := dB) (l := v13) (n := x15.Seq) (x := true) (y := _) rfl]
            rw [wrap_nat i12 (by have := hn_i12; omega)]
            exact hnx14 _ _ _ _ (fun kk => by kernel_rfl) h
      · replace h := ifT h hb18
        conv => lhs; whnf
        try (rw [hb18]; conv => lhs; whnf)
        try (rw [hb18]; conv => lhs; whnf)
        try (rw [hb18]; conv => lhs; whnf)
        try (rw [hb18]; conv => lhs; whnf)
        obtain rfl := Option.some.inj h
        show _ = _
        kernel_rfl
  · clear h
    rintro next_nx14 v13 r h
    try dsimp only at h
    have hd_i12 : (decide ((a_0.length : Int) < (a_0.length : Int))) = false := decide_eq_false (by omega)
    conv => lhs; whnf
    rw [hd_i12]
    conv => lhs; whnf
    obtain rfl := Option.some.inj h
    show _ = _
    kernel_rfl

noncomputable def p_impl_isRange (a_0 : Record) : Option Bool :=
  some (a_0.Kind == 3)

set_option maxHeartbeats 4000000 in
theorem L_impl_isRange (a_0 : Record) {r : Bool} (h : p_impl_isRange a_0 = some r) : callL E 166 [.agg [ST a_0.Key, IN a_0.Seq, IN a_0.Kind, ST a_0.Value, ST a_0.End]] ([] : Fo) = some (BO r, ([] : Fo)) := by
  unfold p_impl_isRange at h
  refine callW (fu := Try.f166) rfl rfl rfl NN ?_
  intro lp cl hlp hcl
  conv => lhs; whnf
  obtain rfl := Option.some.inj h
  show _ = _
  kernel_rfl

noncomputable def p_impl_Record_upper (a_0 : Record) : Option ByteArray :=
  callK (p_impl_isRange a_0) fun y1 =>
  if y1 = true then
    some a_0.End
  else
    grd (((ByteArray.size a_0.Key + ByteArray.size (⟨#[0]⟩ : ByteArray) : Nat) : Int) ≤ 9223372036854775807) <|
    some (a_0.Key ++ (⟨#[0]⟩ : ByteArray))

set_option maxHeartbeats 4000000 in
theorem L_impl_Record_upper (a_0 : Record) {r : ByteArray} (h : p_impl_Record_upper a_0 = some r) : callL E 178 [.agg [ST a_0.Key, IN a_0.Seq, IN a_0.Kind, ST a_0.Value, ST a_0.End]] ([] : Fo) = some (ST r, ([] : Fo)) := by
  unfold p_impl_Record_upper at h
  refine callW (fu := Try.f178) rfl rfl rfl NN ?_
  intro lp cl hlp hcl
  conv => lhs; whnf
  obtain ⟨y1, h_y1, h⟩ := callK_inv h
  rw [cl_eq hcl (L_impl_isRange a_0 h_y1)]
  rotate_left
  · show _ = _
    kernel_rfl
  · show _ = _
    kernel_rfl
  conv => lhs; whnf
  cases hb2 : y1
  · replace h := ifF h (booF hb2)
    conv => lhs; whnf
    obtain ⟨hg3, h⟩ := grd_inv h
    rw [cat_run _ _ _ hg3]
    conv => lhs; whnf
    obtain rfl := Option.some.inj h
    show _ = _
    kernel_rfl
  · replace h := ifT h hb2
    conv => lhs; whnf
    obtain rfl := Option.some.inj h
    show _ = _
    kernel_rfl

noncomputable def p_impl_splitRun_c1 (a_0 : List Record) : Option Bool :=
  some (decide ((a_0.length : Int) > 60))

set_option maxHeartbeats 4000000 in
theorem L_impl_splitRun_c1 (a_0 : List Record) {r : Bool} (h : p_impl_splitRun_c1 a_0 = some r) : callL E 180 [.d (.arr (a_0.map rRecord))] ([] : Fo) = some (BO r, ([] : Fo)) := by
  unfold p_impl_splitRun_c1 at h
  refine callW (fu := Try.f180) rfl rfl rfl NN ?_
  intro lp cl hlp hcl
  conv => lhs; whnf
  try rw [len_of (l := a_0) (r := rRecord)]
  obtain rfl := Option.some.inj h
  show _ = _
  kernel_rfl

noncomputable def p_slices_IndexFunc_impl_splitRun_c1 (a_0 : List (List Record)) : Option Int :=
  grd (a_0.length < 4611686018427387904) <|
  forK a_0 (fun (i6 : Nat) x8 (_ : Unit) (nx7 : Unit → Option _) =>
    callK (p_impl_splitRun_c1 x8) fun y9 =>
    if y9 = true then
      some (i6 : Int)
    else
      nx7 ()) () (fun (_ : Unit) =>
    some (-1))

set_option maxHeartbeats 4000000 in
theorem L_slices_IndexFunc_impl_splitRun_c1 (a_0 : List (List Record)) {r : Int} (h : p_slices_IndexFunc_impl_splitRun_c1 a_0 = some r) : callL E 226 [.sl 0, .clo 180 []] ([some (.arr 23 1 (a_0.map (rL rRecord)))] : Fo) = some (IN r, ([some (.arr 23 1 (a_0.map (rL rRecord)))] : Fo)) := by
  unfold p_slices_IndexFunc_impl_splitRun_c1 at h
  refine callW (fu := Try.f226) rfl rfl rfl NN ?_
  intro lp cl hlp hcl
  conv => lhs; whnf
  try rw [len_of (l := a_0) (r := (rL rRecord))]
  obtain ⟨hl_i6, h⟩ := grd_inv h
  refine loop_for hlp (l := a_0) hl_i6 (fun (i6 : Nat) (_ : Unit) => ([.sl 0, .clo 180 [], .dead, .dead, .dead, .dead, .dead, IN (a_0.length : Int), IN (i6 : Int)] ++ List.replicate 10 .dead : List V)) (fun (i6 : Nat) (_ : Unit) => ([some (.arr 23 1 (a_0.map (rL rRecord)))] : Fo)) (fun (r : Int) => ((IN r : V), ([some (.arr 23 1 (a_0.map (rL rRecord)))] : Fo))) ?_ ?_ () _ (fun kk => by kernel_rfl) h
  · clear h
    rintro next_nx7 nx7 i6 hi_i6 hnx7 ⟨⟩ r h
    try dsimp only at h
    have hn_i6 : i6 < 4611686018427387904 := by omega
    have hx_x8 := get_map (rL rRecord) a_0 i6 hi_i6
    generalize a_0[i6] = x8 at h hx_x8
    have hd_i6 : (decide ((i6 : Int) < (a_0.length : Int))) = true := decide_eq_true (by omega)
    conv => lhs; whnf
    rw [hd_i6]
    conv => lhs; whnf
    try (rw [decide_eq_true hq_x8]; conv => lhs; whnf)
    rw [hx_x8]
    conv => lhs; whnf
    rw [hx_x8]
    conv => lhs; whnf
    obtain ⟨y9, h_y9, h⟩ := callK_inv h
    rw [cl_eq hcl (L_impl_splitRun_c1 x8 h_y9)]
    rotate_left
    · show _ = _
      kernel_rfl
    · show _ = _
      kernel_rfl
    conv => lhs; whnf
    cases hb10 : y9
    · replace h := ifF h (booF hb10)
      conv => lhs; whnf
      rw [wrap_nat i6 (by have := hn_i6; omega)]
      exact hnx7 _ _ _ _ (fun kk => by kernel_rfl) h
    · replace h := ifT h hb10
      conv => lhs; whnf
      obtain rfl := Option.some.inj h
      show _ = _
      kernel_rfl
  · clear h
    rintro next_nx7 ⟨⟩ r h
    try dsimp only at h
    have hd_i6 : (decide ((a_0.length : Int) < (a_0.length : Int))) = false := decide_eq_false (by omega)
    conv => lhs; whnf
    rw [hd_i6]
    conv => lhs; whnf
    obtain rfl := Option.some.inj h
    show _ = _
    kernel_rfl

noncomputable def p_slices_ContainsFunc_impl_splitRun_c1 (a_0 : List (List Record)) : Option Bool :=
  callK (p_slices_IndexFunc_impl_splitRun_c1 a_0) fun y1 =>
  some (decide (y1 ≥ 0))

set_option maxHeartbeats 4000000 in
theorem L_slices_ContainsFunc_impl_splitRun_c1 (a_0 : List (List Record)) {r : Bool} (h : p_slices_ContainsFunc_impl_splitRun_c1 a_0 = some r) : callL E 179 [.sl 0, .clo 180 []] ([some (.arr 23 1 (a_0.map (rL rRecord)))] : Fo) = some (BO r, ([some (.arr 23 1 (a_0.map (rL rRecord)))] : Fo)) := by
  unfold p_slices_ContainsFunc_impl_splitRun_c1 at h
  refine callW (fu := Try.f179) rfl rfl rfl NN ?_
  intro lp cl hlp hcl
  conv => lhs; whnf
  obtain ⟨y1, h_y1, h⟩ := callK_inv h
  rw [cl_eq hcl (L_slices_IndexFunc_impl_splitRun_c1 a_0 h_y1)]
  rotate_left
  · show _ = _
    kernel_rfl
  · show _ = _
    kernel_rfl
  conv => lhs; whnf
  obtain rfl := Option.some.inj h
  show _ = _
  kernel_rfl

noncomputable def p_impl_splitRun (a_0 : List Record) : Option ((List (List Record)) × Int) :=
  grd (a_0.length < 4611686018427387904) <|
  forK a_0 (fun (i12 : Nat) x17 ((v13, v14, v15) : (ByteArray × (List (List Record)) × (List Record))) (nx16 : (ByteArray × (List (List Record)) × (List Record)) → Option _) =>
    if (v15.length : Int) ≥ 16 then
      if ((Op.bytesLess v13.toList x17.Key.toList) || (v13.toList == x17.Key.toList)) = true then
        grd (appOk (v14.length + 1) 24 = true) <|
        callK (p_impl_Record_upper x17) fun y20 =>
        nx16 ((maxS (⟨#[]⟩ : ByteArray) y20), (v14 ++ ([v15] : List (List Record))), ([x17] : List Record))
      else
        grd (appOk (v15.length + 1) 64 = true) <|
        callK (p_impl_Record_upper x17) fun y21 =>
        nx16 ((maxS v13 y21), v14, (v15 ++ ([x17] : List Record)))
    else
      grd (appOk (v15.length + 1) 64 = true) <|
      callK (p_impl_Record_upper x17) fun y22 =>
      nx16 ((maxS v13 y22), v14, (v15 ++ ([x17] : List Record)))) ((⟨#[]⟩ : ByteArray), ([] : List (List Record)), ([] : List Record)) (fun ((v13, v14, v15) : (ByteArray × (List (List Record)) × (List Record))) =>
    if (v15.length : Int) > 0 then
      grd (appOk (v14.length + 1) 24 = true) <|
      callK (p_slices_ContainsFunc_impl_splitRun_c1 (v14 ++ ([v15] : List (List Record)))) fun y24 =>
      if y24 = true then
        some (([] : List (List Record)), 4)
      else
        some ((v14 ++ ([v15] : List (List Record))), 0)
    else
      callK (p_slices_ContainsFunc_impl_splitRun_c1 v14) fun y26 =>
      if y26 = true then
        some (([] : List (List Record)), 4)
      else
        some (v14, 0))

set_option maxHeartbeats 4000000 in
theorem L_impl_splitRun (a_0 : List Record) {r : ((List (List Record)) × Int)} (h : p_impl_splitRun a_0 = some r) : callL E 93 [.d (.arr (a_0.map rRecord))] ([] : Fo) = some (.tup [.d (.arr (r.1.map (rL rRecord))), IN r.2], ([] : Fo)) := by
  unfold p_impl_splitRun at h
  refine callW (fu := Try.f93) rfl rfl rfl NN ?_
  intro lp cl hlp hcl
  conv => lhs; whnf
  try rw [len_of (l := a_0) (r := rRecord)]
  obtain ⟨hl_i12, h⟩ := grd_inv h
  refine loop_for hlp (l := a_0) hl_i12 (fun (i12 : Nat) ((v13, v14, v15) : (ByteArray × (List (List Record)) × (List Record))) => ([.dead, .dead, .dead, .dead, .sl 0, .sl 1, ST v13, .dead, .dead, .d (.arr (a_0.map rRecord)), IN (a_0.length : Int), IN (i12 : Int)] ++ List.replicate 35 .dead : List V)) (fun (i12 : Nat) ((v13, v14, v15) : (ByteArray × (List (List Record)) × (List Record))) => ([some (.arr 23 1 (v14.map (rL rRecord))), some (.arr 30 5 (v15.map rRecord))] : Fo)) (fun (r : ((List (List Record)) × Int)) => ((.tup [.d (.arr (r.1.map (rL rRecord))), IN r.2] : V), ([] : Fo))) ?_ ?_ ((⟨#[]⟩ : ByteArray), ([] : List (List Record)), ([] : List Record)) _ (fun kk => by kernel_rfl) h
  · clear h
    rintro next_nx16 nx16 i12 hi_i12 hnx16 ⟨v13, v14, v15⟩ r h
    try dsimp only at h
    have hn_i12 : i12 < 4611686018427387904 := by omega
    have hx_x17 := get_map rRecord a_0 i12 hi_i12
    generalize a_0[i12] = x17 at h hx_x17
    have hd_i12 : (decide ((i12 : Int) < (a_0.length : Int))) = true := decide_eq_true (by omega)
    conv => lhs; whnf
    rw [hd_i12]
    conv => lhs; whnf
    try (rw [decide_eq_true hq_x17]; conv => lhs; whnf)
    rw [hx_x17]
    conv => lhs; whnf
    rw [hx_x17]
    conv => lhs; whnf
    try rw [len_of (l := v15) (r := rRecord)]
    cases hb18 : (decide ((v15.length : Int) ≥ 16))
    · replace h := ifF h (decF hb18)
      conv => lhs; whnf
      try (rw [hb18]; conv => lhs; whnf)
      try (rw [hb18]; conv => lhs; whnf)
      try (rw [hb18]; conv => lhs; whnf)
      try (rw [hb18]; conv => lhs; whnf)
      obtain ⟨hg28, h⟩ := grd_inv h
      rw [app_eq hg28 ?h1 ?h2]
      case h1 => first | exact rfl | (simp only [List.length_map, List.length_cons, List.length_nil]; done) | (rw [List.length_map]; rfl)
      case h2 => exact rfl
      conv => lhs; whnf
      first | (rw [map_app_of (r := rRecord) (l := v15) (m := ([x17] : List Record)) ?hh]; case hh => exact rfl) | skip
      obtain ⟨y22, h_y22, h⟩ := callK_inv h
      rw [cl_eq hcl (L_impl_Record_upper x17 h_y22)]
      rotate_left
      · show _ = _
        kernel_rfl
      · show _ = _
        kernel_rfl
      conv => lhs; whnf
      rw [wrap_nat i12 (by have := hn_i12; omega)]
      exact hnx16 _ _ _ _ (fun kk => by kernel_rfl) h
    · replace h := ifT h (decT hb18)
      conv => lhs; whnf
      try (rw [hb18]; conv => lhs; whnf)
      try (rw [hb18]; conv => lhs; whnf)
      try (rw [hb18]; conv => lhs; whnf)
      try (rw [hb18]; conv => lhs; whnf)
      cases hb19 : ((Op.bytesLess v13.toList x17.Key.toList) || (v13.toList == x17.Key.toList))
      · replace h := ifF h (booF hb19)
        conv => lhs; whnf
        obtain ⟨hg29, h⟩ := grd_inv h
        rw [app_eq hg29 ?h1 ?h2]
        case h1 => first | exact rfl | (simp only [List.length_map, List.length_cons, List.length_nil]; done) | (rw [List.length_map]; rfl)
        case h2 => exact rfl
        conv => lhs; whnf
        first | (rw [map_app_of (r := rRecord) (l := v15) (m := ([x17] : List Record)) ?hh]; case hh => exact rfl) | skip
        obtain ⟨y21, h_y21, h⟩ := callK_inv h
        rw [cl_eq hcl (L_impl_Record_upper x17 h_y21)]
        rotate_left
        · show _ = _
          kernel_rfl
        · show _ = _
          kernel_rfl
        conv => lhs; whnf
        rw [wrap_nat i12 (by have := hn_i12; omega)]
        exact hnx16 _ _ _ _ (fun kk => by kernel_rfl) h
      · replace h := ifT h hb19
        conv => lhs; whnf
        obtain ⟨hg30, h⟩ := grd_inv h
        rw [app_eq hg30 ?h1 ?h2]
        case h1 => first | exact rfl | (simp only [List.length_map, List.length_cons, List.length_nil]; done) | (rw [List.length_map]; rfl)
        case h2 => exact rfl
        conv => lhs; whnf
        first | (rw [map_app_of (r := (rL rRecord)) (l := v14) (m := ([v15] : List (List Record))) ?hh]; case hh => exact rfl) | skip
        obtain ⟨y20, h_y20, h⟩ := callK_inv h
        rw [cl_eq hcl (L_impl_Record_upper x17 h_y20)]
        rotate_left
        · show _ = _
          kernel_rfl
        · show _ = _
          kernel_rfl
        conv => lhs; whnf
        rw [wrap_nat i12 (by have := hn_i12; omega)]
        exact hnx16 _ _ _ _ (fun kk => by kernel_rfl) h
  · clear h
    rintro next_nx16 ⟨v13, v14, v15⟩ r h
    try dsimp only at h
    have hd_i12 : (decide ((a_0.length : Int) < (a_0.length : Int))) = false := decide_eq_false (by omega)
    conv => lhs; whnf
    rw [hd_i12]
    conv => lhs; whnf
    try rw [len_of (l := v15) (r := rRecord)]
    cases hb23 : (decide ((v15.length : Int) > 0))
    · replace h := ifF h (decF hb23)
      conv => lhs; whnf
      obtain ⟨y26, h_y26, h⟩ := callK_inv h
      rw [cl_eq hcl (L_slices_ContainsFunc_impl_splitRun_c1 v14 h_y26)]
      rotate_left
      · show _ = _
        kernel_rfl
      · show _ = _
        kernel_rfl
      conv => lhs; whnf
      cases hb27 : y26
      · replace h := ifF h (booF hb27)
        conv => lhs; whnf
        obtain rfl := Option.some.inj h
        show _ = _
        kernel_rfl
      · replace h := ifT h hb27
        conv => lhs; whnf
        obtain rfl := Option.some.inj h
        show _ = _
        kernel_rfl
    · replace h := ifT h (decT hb23)
      conv => lhs; whnf
      obtain ⟨hg31, h⟩ := grd_inv h
      rw [app_eq hg31 ?h1 ?h2]
      case h1 => first | exact rfl | (simp only [List.length_map, List.length_cons, List.length_nil]; done) | (rw [List.length_map]; rfl)
      case h2 => exact rfl
      conv => lhs; whnf
      first | (rw [map_app_of (r := (rL rRecord)) (l := v14) (m := ([v15] : List (List Record))) ?hh]; case hh => exact rfl) | skip
      obtain ⟨y24, h_y24, h⟩ := callK_inv h
      rw [cl_eq hcl (L_slices_ContainsFunc_impl_splitRun_c1 (v14 ++ ([v15] : List (List Record))) h_y24)]
      rotate_left
      · show _ = _
        kernel_rfl
      · show _ = _
        kernel_rfl
      conv => lhs; whnf
      cases hb25 : y24
      · replace h := ifF h (booF hb25)
        conv => lhs; whnf
        obtain rfl := Option.some.inj h
        show _ = _
        kernel_rfl
      · replace h := ifT h hb25
        conv => lhs; whnf
        obtain rfl := Option.some.inj h
        show _ = _
        kernel_rfl

noncomputable def p_impl_SplitRun (a_0 : List Record) : Option ((List (List Record)) × Int) :=
  callK (p_impl_ValidRun a_0) fun y1 =>
  if y1 = true then
    callK (p_impl_splitRun a_0) fun y3 =>
    some (y3.1, y3.2)
  else
    some (([] : List (List Record)), 1)

set_option maxHeartbeats 4000000 in
theorem L_impl_SplitRun (a_0 : List Record) {r : ((List (List Record)) × Int)} (h : p_impl_SplitRun a_0 = some r) : callL E 25 [.d (.arr (a_0.map rRecord))] ([] : Fo) = some (.tup [.d (.arr (r.1.map (rL rRecord))), IN r.2], ([] : Fo)) := by
  unfold p_impl_SplitRun at h
  refine callW (fu := Try.f25) rfl rfl rfl NN ?_
  intro lp cl hlp hcl
  conv => lhs; whnf
  obtain ⟨y1, h_y1, h⟩ := callK_inv h
  rw [cl_eq hcl (L_impl_ValidRun a_0 h_y1)]
  rotate_left
  · show _ = _
    kernel_rfl
  · show _ = _
    kernel_rfl
  conv => lhs; whnf
  cases hb2 : y1
  · replace h := ifF h (booF hb2)
    conv => lhs; whnf
    obtain rfl := Option.some.inj h
    show _ = _
    kernel_rfl
  · replace h := ifT h hb2
    conv => lhs; whnf
    obtain ⟨y3, h_y3, h⟩ := callK_inv h
    rw [cl_eq hcl (L_impl_splitRun a_0 h_y3)]
    rotate_left
    · show _ = _
      kernel_rfl
    · show _ = _
      kernel_rfl
    conv => lhs; whnf
    obtain rfl := Option.some.inj h
    show _ = _
    kernel_rfl

noncomputable def p_spec_l17Run (a_0 : List Record) : Option Bool :=
  grd (a_0.length < 4611686018427387904) <|
  forK a_0 (fun (i26 : Nat) x28 (_ : Unit) (nx27 : Unit → Option _) =>
    callK (p_spec_l17Valid x28) fun y29 =>
    if y29 = true then
      if (i26 : Int) > 0 then
        getK a_0 (IntKind.i64.wrap ((i26 : Int) - 1)) fun x32 =>
        callK (p_spec_l17Less x32 x28) fun y33 =>
        if y33 = true then
          grd ((i26 : Int) < 4611686018427387904) <|
          forI (i26 : Int) (fun (i39 : Nat) (_ : Unit) (nx40 : Unit → Option _) =>
            getK a_0 (i39 : Int) fun x41 =>
            if x41.Seq = x28.Seq then
              some false
            else
              nx40 ()) () (fun (_ : Unit) =>
            nx27 ())
        else
          some false
      else
        grd ((i26 : Int) < 4611686018427387904) <|
        forI (i26 : Int) (fun (i47 : Nat) (_ : Unit) (nx48 : Unit → Option _) =>
          getK a_0 (i47 : Int) fun x49 =>
          if x49.Seq = x28.Seq then
            some false
          else
            nx48 ()) () (fun (_ : Unit) =>
          nx27 ())
    else
      some false) () (fun (_ : Unit) =>
    some true)

set_option maxHeartbeats 4000000 in
theorem L_spec_l17Run (a_0 : List Record) {r : Bool} (h : p_spec_l17Run a_0 = some r) : callL E 86 [.d (.arr (a_0.map rRecord))] ([] : Fo) = some (BO r, ([] : Fo)) := by
  unfold p_spec_l17Run at h
  refine callW (fu := Try.f86) rfl rfl rfl NN ?_
  intro lp cl hlp hcl
  conv => lhs; whnf
  obtain ⟨hl_i26, h⟩ := grd_inv h
  refine loop_for hlp (l := a_0) hl_i26 (fun (i26 : Nat) (_ : Unit) => ([.d (.arr (a_0.map rRecord)), .dead, .dead, IN (i26 : Int)] ++ List.replicate 46 .dead : List V)) (fun (i26 : Nat) (_ : Unit) => ([] : Fo)) (fun (r : Bool) => ((BO r : V), ([] : Fo))) ?_ ?_ () _ (fun kk => by kernel_rfl) h
  · clear h
    rintro next_nx27 nx27 i26 hi_i26 hnx27 ⟨⟩ r h
    try dsimp only at h
    have hn_i26 : i26 < 4611686018427387904 := by omega
    have hx_x28 := get_map rRecord a_0 i26 hi_i26
    generalize a_0[i26] = x28 at h hx_x28
    have hd_i26 : (decide ((i26 : Int) < (a_0.length : Int))) = true := decide_eq_true (by omega)
    conv => lhs; whnf
    try rw [len_of (l := a_0) (r := rRecord)]
    rw [hd_i26]
    conv => lhs; whnf
    try (rw [decide_eq_true hq_x28]; conv => lhs; whnf)
    rw [hx_x28]
    conv => lhs; whnf
    rw [hx_x28]
    conv => lhs; whnf
    obtain ⟨y29, h_y29, h⟩ := callK_inv h
    rw [cl_eq hcl (L_spec_l17Valid x28 h_y29)]
    rotate_left
    · show _ = _
      kernel_rfl
    · show _ = _
      kernel_rfl
    conv => lhs; whnf
    cases hb30 : y29
    · replace h := ifF h (booF hb30)
      conv => lhs; whnf
      try (rw [hb30]; conv => lhs; whnf)
      try (rw [hb30]; conv => lhs; whnf)
      try (rw [hb30]; conv => lhs; whnf)
      try (rw [hb30]; conv => lhs; whnf)
      obtain rfl := Option.some.inj h
      show _ = _
      kernel_rfl
    · replace h := ifT h hb30
      conv => lhs; whnf
      try (rw [hb30]; conv => lhs; whnf)
      try (rw [hb30]; conv => lhs; whnf)
      cases hb31 : (decide ((i26 : Int) > 0))
      · replace h := ifF h (decF hb31)
        conv => lhs; whnf
        try (rw [hb31]; conv => lhs; whnf)
        try (rw [hb31]; conv => lhs; whnf)
        try (rw [hb31]; conv => lhs; whnf)
        try (rw [hb31]; conv => lhs; whnf)
        try (rw [hb31]; conv => lhs; whnf)
        try (rw [hb31]; conv => lhs; whnf)
        try (rw [hb31]; conv => lhs; whnf)
        try (rw [hb31]; conv => lhs; whnf)
        try (rw [hb31]; conv => lhs; whnf)
        try (rw [hb31]; conv => lhs; whnf)
        try (rw [hb30]; conv => lhs; whnf)
        try (rw [hb31]; conv => lhs; whnf)
        try (rw [hb30]; conv => lhs; whnf)
        obtain ⟨hl_i47, h⟩ := grd_inv h
        refine loop_forI hlp (n := (i26 : Int)) hl_i47 (fun (i47 : Nat) (_ : Unit) => ([.d (.arr (a_0.map rRecord)), .dead, .dead, IN (i26 : Int), IN (i47 : Int)] ++ List.replicate 45 .dead : List V)) (fun (i47 : Nat) (_ : Unit) => ([] : Fo)) (fun (r : Bool) => ((BO r : V), ([] : Fo))) ?_ ?_ () _ (fun kk => by kernel_rfl) h
        · clear h
          rintro next_nx48 nx48 i47 hi_i47 hnx48 ⟨⟩ r h
          try dsimp only at h
          have hn_i47 : i47 < 4611686018427387904 := by omega
          have hd_i47 : (decide ((i47 : Int) < (i26 : Int))) = true := decide_eq_true (by omega)
          conv => lhs; whnf
          rw [hd_i47]
          conv => lhs; whnf
          obtain ⟨x49, hq_x49, hx_x49', h⟩ := getK_inv h
          have hx_x49 := get_of (r := rRecord) hx_x49'
          try (rw [decide_eq_true hq_x49]; conv => lhs; whnf)
          rw [hx_x49]
          conv => lhs; whnf
          rw [hx_x49]
          conv => lhs; whnf
          try (rw [decide_eq_true hq_x28]; conv => lhs; whnf)
          rw [hx_x28]
          conv => lhs; whnf
          rw [hx_x28]
          conv => lhs; whnf
          cases hb50 : (x49.Seq == x28.Seq)
          · replace h := ifF h (beqF hb50)
            conv => lhs; whnf
            rw [wrap_nat i47 (by have := hn_i47; omega)]
            exact hnx48 _ _ _ _ (fun kk => by kernel_rfl) h
          · replace h := ifT h (beqT hb50)
            conv => lhs; whnf
            obtain rfl := Option.some.inj h
            show _ = _
            kernel_rfl
        · clear h
          rintro next_nx48 ⟨⟩ r h
          try dsimp only at h
          have hd_i47 : (decide (((Int.toNat (i26 : Int)) : Int) < (i26 : Int))) = false := decide_eq_false (by omega)
          conv => lhs; whnf
          rw [hd_i47]
          conv => lhs; whnf
          rw [wrap_nat i26 (by have := hn_i26; omega)]
          exact hnx27 _ _ _ _ (fun kk => by kernel_rfl) h
      · replace h := ifT h (decT hb31)
        conv => lhs; whnf
        try (rw [hb31]; conv => lhs; whnf)
        try (rw [hb31]; conv => lhs; whnf)
        try (rw [hb31]; conv => lhs; whnf)
        obtain ⟨x32, hq_x32, hx_x32', h⟩ := getK_inv h
        have hx_x32 := get_of (r := rRecord) hx_x32'
        try (rw [decide_eq_true hq_x32]; conv => lhs; whnf)
        rw [hx_x32]
        conv => lhs; whnf
        try (rw [hb31]; conv => lhs; whnf)
        rw [hx_x32]
        conv => lhs; whnf
        try (rw [hb31]; conv => lhs; whnf)
        try (rw [hb31]; conv => lhs; whnf)
        try (rw [hb31]; conv => lhs; whnf)
        try (rw [decide_eq_true hq_x28]; conv => lhs; whnf)
        rw [hx_x28]
        conv => lhs; whnf
        try (rw [hb31]; conv => lhs; whnf)
        rw [hx_x28]
        conv => lhs; whnf
        try (rw [hb31]; conv => lhs; whnf)
        obtain ⟨y33, h_y33, h⟩ := callK_inv h
        rw [cl_eq hcl (L_spec_l17Less x32 x28 h_y33)]
        rotate_left
        · show _ = _
          kernel_rfl
        · show _ = _
          kernel_rfl
        conv => lhs; whnf
        try (rw [hb31]; conv => lhs; whnf)
        try (rw [hb30]; conv => lhs; whnf)
        try (rw [hb31]; conv => lhs; whnf)
        try (rw [hb30]; conv => lhs; whnf)
        cases hb34 : y33
        · replace h := ifF h (booF hb34)
          conv => lhs; whnf
          obtain rfl := Option.some.inj h
          show _ = _
          kernel_rfl
        · replace h := ifT h hb34
          conv => lhs; whnf
          obtain ⟨hl_i39, h⟩ := grd_inv h
          refine loop_forI hlp (n := (i26 : Int)) hl_i39 (fun (i39 : Nat) (_ : Unit) => ([.d (.arr (a_0.map rRecord)), .dead, .dead, IN (i26 : Int), IN (i39 : Int)] ++ List.replicate 45 .dead : List V)) (fun (i39 : Nat) (_ : Unit) => ([] : Fo)) (fun (r : Bool) => ((BO r : V), ([] : Fo))) ?_ ?_ () _ (fun kk => by kernel_rfl) h
          · clear h
            rintro next_nx40 nx40 i39 hi_i39 hnx40 ⟨⟩ r h
            try dsimp only at h
            have hn_i39 : i39 < 4611686018427387904 := by omega
            have hd_i39 : (decide ((i39 : Int) < (i26 : Int))) = true := decide_eq_true (by omega)
            conv => lhs; whnf
            rw [hd_i39]
            conv => lhs; whnf
            obtain ⟨x41, hq_x41, hx_x41', h⟩ := getK_inv h
            have hx_x41 := get_of (r := rRecord) hx_x41'
            try (rw [decide_eq_true hq_x41]; conv => lhs; whnf)
            rw [hx_x41]
            conv => lhs; whnf
            rw [hx_x41]
            conv => lhs; whnf
            try (rw [decide_eq_true hq_x28]; conv => lhs; whnf)
            rw [hx_x28]
            conv => lhs; whnf
            rw [hx_x28]
            conv => lhs; whnf
            cases hb42 : (x41.Seq == x28.Seq)
            · replace h := ifF h (beqF hb42)
              conv => lhs; whnf
              rw [wrap_nat i39 (by have := hn_i39; omega)]
              exact hnx40 _ _ _ _ (fun kk => by kernel_rfl) h
            · replace h := ifT h (beqT hb42)
              conv => lhs; whnf
              obtain rfl := Option.some.inj h
              show _ = _
              kernel_rfl
          · clear h
            rintro next_nx40 ⟨⟩ r h
            try dsimp only at h
            have hd_i39 : (decide (((Int.toNat (i26 : Int)) : Int) < (i26 : Int))) = false := decide_eq_false (by omega)
            conv => lhs; whnf
            rw [hd_i39]
            conv => lhs; whnf
            rw [wrap_nat i26 (by have := hn_i26; omega)]
            exact hnx27 _ _ _ _ (fun kk => by kernel_rfl) h
  · clear h
    rintro next_nx27 ⟨⟩ r h
    try dsimp only at h
    have hd_i26 : (decide ((a_0.length : Int) < (a_0.length : Int))) = false := decide_eq_false (by omega)
    conv => lhs; whnf
    try rw [len_of (l := a_0) (r := rRecord)]
    rw [hd_i26]
    conv => lhs; whnf
    obtain rfl := Option.some.inj h
    show _ = _
    kernel_rfl

noncomputable def p_spec_ValidRun (a_0 : List Record) : Option Bool :=
  callK (p_spec_l17Run a_0) fun y1 =>
  some y1

set_option maxHeartbeats 4000000 in
theorem L_spec_ValidRun (a_0 : List Record) {r : Bool} (h : p_spec_ValidRun a_0 = some r) : callL E 94 [.d (.arr (a_0.map rRecord))] ([] : Fo) = some (BO r, ([] : Fo)) := by
  unfold p_spec_ValidRun at h
  refine callW (fu := Try.f94) rfl rfl rfl NN ?_
  intro lp cl hlp hcl
  conv => lhs; whnf
  obtain ⟨y1, h_y1, h⟩ := callK_inv h
  rw [cl_eq hcl (L_spec_l17Run a_0 h_y1)]
  rotate_left
  · show _ = _
    kernel_rfl
  · show _ = _
    kernel_rfl
  conv => lhs; whnf
  obtain rfl := Option.some.inj h
  show _ = _
  kernel_rfl

noncomputable def p_spec_l26High (a_0 : Record) : Option ByteArray :=
  if a_0.Kind = 3 then
    some a_0.End
  else
    grd (((ByteArray.size a_0.Key + ByteArray.size (⟨#[0]⟩ : ByteArray) : Nat) : Int) ≤ 9223372036854775807) <|
    some (a_0.Key ++ (⟨#[0]⟩ : ByteArray))

set_option maxHeartbeats 4000000 in
theorem L_spec_l26High (a_0 : Record) {r : ByteArray} (h : p_spec_l26High a_0 = some r) : callL E 181 [.agg [ST a_0.Key, IN a_0.Seq, IN a_0.Kind, ST a_0.Value, ST a_0.End]] ([] : Fo) = some (ST r, ([] : Fo)) := by
  unfold p_spec_l26High at h
  refine callW (fu := Try.f181) rfl rfl rfl NN ?_
  intro lp cl hlp hcl
  conv => lhs; whnf
  cases hb1 : (a_0.Kind == 3)
  · replace h := ifF h (beqF hb1)
    conv => lhs; whnf
    obtain ⟨hg2, h⟩ := grd_inv h
    rw [cat_run _ _ _ hg2]
    conv => lhs; whnf
    obtain rfl := Option.some.inj h
    show _ = _
    kernel_rfl
  · replace h := ifT h (beqT hb1)
    conv => lhs; whnf
    obtain rfl := Option.some.inj h
    show _ = _
    kernel_rfl

noncomputable def p_spec_l26Split (a_0 : List Record) : Option ((List (List Record)) × Int) :=
  grd (a_0.length < 4611686018427387904) <|
  forK a_0 (fun (i20 : Nat) x25 ((v21, v22, v23) : (ByteArray × (List (List Record)) × (List Record))) (nx24 : (ByteArray × (List (List Record)) × (List Record)) → Option _) =>
    if (v23.length : Int) ≥ 16 then
      if ((Op.bytesLess v21.toList x25.Key.toList) || (v21.toList == x25.Key.toList)) = true then
        grd (appOk (v22.length + 1) 24 = true) <|
        callK (p_spec_l26High x25) fun y28 =>
        if ((Op.bytesLess y28.toList (⟨#[]⟩ : ByteArray).toList) || (y28.toList == (⟨#[]⟩ : ByteArray).toList)) = true then
          nx24 ((⟨#[]⟩ : ByteArray), (v22 ++ ([v23] : List (List Record))), ([x25] : List Record))
        else
          nx24 (y28, (v22 ++ ([v23] : List (List Record))), ([x25] : List Record))
      else
        grd (appOk (v23.length + 1) 64 = true) <|
        callK (p_spec_l26High x25) fun y30 =>
        if ((Op.bytesLess y30.toList v21.toList) || (y30.toList == v21.toList)) = true then
          if ((v23 ++ ([x25] : List Record)).length : Int) > 60 then
            some (([] : List (List Record)), 4)
          else
            nx24 (v21, v22, (v23 ++ ([x25] : List Record)))
        else
          if ((v23 ++ ([x25] : List Record)).length : Int) > 60 then
            some (([] : List (List Record)), 4)
          else
            nx24 (y30, v22, (v23 ++ ([x25] : List Record)))
    else
      grd (appOk (v23.length + 1) 64 = true) <|
      callK (p_spec_l26High x25) fun y34 =>
      if ((Op.bytesLess y34.toList v21.toList) || (y34.toList == v21.toList)) = true then
        if ((v23 ++ ([x25] : List Record)).length : Int) > 60 then
          some (([] : List (List Record)), 4)
        else
          nx24 (v21, v22, (v23 ++ ([x25] : List Record)))
      else
        if ((v23 ++ ([x25] : List Record)).length : Int) > 60 then
          some (([] : List (List Record)), 4)
        else
          nx24 (y34, v22, (v23 ++ ([x25] : List Record)))) ((⟨#[]⟩ : ByteArray), ([] : List (List Record)), ([] : List Record)) (fun ((v21, v22, v23) : (ByteArray × (List (List Record)) × (List Record))) =>
    if (v23.length : Int) > 0 then
      grd (appOk (v22.length + 1) 24 = true) <|
      some ((v22 ++ ([v23] : List (List Record))), 0)
    else
      some (v22, 0))

set_option maxHeartbeats 4000000 in
theorem L_spec_l26Split (a_0 : List Record) {r : ((List (List Record)) × Int)} (h : p_spec_l26Split a_0 = some r) : callL E 95 [.d (.arr (a_0.map rRecord))] ([] : Fo) = some (.tup [.d (.arr (r.1.map (rL rRecord))), IN r.2], ([] : Fo)) := by
  unfold p_spec_l26Split at h
  refine callW (fu := Try.f95) rfl rfl rfl NN ?_
  intro lp cl hlp hcl
  conv => lhs; whnf
  obtain ⟨hl_i20, h⟩ := grd_inv h
  refine loop_for hlp (l := a_0) hl_i20 (fun (i20 : Nat) ((v21, v22, v23) : (ByteArray × (List (List Record)) × (List Record))) => ([.d (.arr (a_0.map rRecord)), .dead, .dead, .dead, .sl 0, .sl 1, ST v21, IN (i20 : Int)] ++ List.replicate 54 .dead : List V)) (fun (i20 : Nat) ((v21, v22, v23) : (ByteArray × (List (List Record)) × (List Record))) => ([some (.arr 23 1 (v22.map (rL rRecord))), some (.arr 30 5 (v23.map rRecord))] : Fo)) (fun (r : ((List (List Record)) × Int)) => ((.tup [.d (.arr (r.1.map (rL rRecord))), IN r.2] : V), ([] : Fo))) ?_ ?_ ((⟨#[]⟩ : ByteArray), ([] : List (List Record)), ([] : List Record)) _ (fun kk => by kernel_rfl) h
  · clear h
    rintro next_nx24 nx24 i20 hi_i20 hnx24 ⟨v21, v22, v23⟩ r h
    try dsimp only at h
    have hn_i20 : i20 < 4611686018427387904 := by omega
    have hx_x25 := get_map rRecord a_0 i20 hi_i20
    generalize a_0[i20] = x25 at h hx_x25
    have hd_i20 : (decide ((i20 : Int) < (a_0.length : Int))) = true := decide_eq_true (by omega)
    conv => lhs; whnf
    try rw [len_of (l := a_0) (r := rRecord)]
    rw [hd_i20]
    conv => lhs; whnf
    try rw [len_of (l := v23) (r := rRecord)]
    cases hb26 : (decide ((v23.length : Int) ≥ 16))
    · replace h := ifF h (decF hb26)
      conv => lhs; whnf
      try (rw [hb26]; conv => lhs; whnf)
      try (rw [hb26]; conv => lhs; whnf)
      try (rw [hb26]; conv => lhs; whnf)
      try (rw [hb26]; conv => lhs; whnf)
      try (rw [hb26]; conv => lhs; whnf)
      try (rw [hb26]; conv => lhs; whnf)
      try (rw [hb26]; conv => lhs; whnf)
      try (rw [decide_eq_true hq_x25]; conv => lhs; whnf)
      rw [hx_x25]
      conv => lhs; whnf
      rw [hx_x25]
      conv => lhs; whnf
      obtain ⟨hg39, h⟩ := grd_inv h
      rw [app_eq hg39 ?h1 ?h2]
      case h1 => first | exact rfl | (simp only [List.length_map, List.length_cons, List.length_nil]; done) | (rw [List.length_map]; rfl)
      case h2 => exact rfl
      conv => lhs; whnf
      first | (rw [map_app_of (r := rRecord) (l := v23) (m := ([x25] : List Record)) ?hh]; case hh => exact rfl) | skip
      try (rw [decide_eq_true hq_x25]; conv => lhs; whnf)
      rw [hx_x25]
      conv => lhs; whnf
      rw [hx_x25]
      conv => lhs; whnf
      obtain ⟨y34, h_y34, h⟩ := callK_inv h
      rw [cl_eq hcl (L_spec_l26High x25 h_y34)]
      rotate_left
      · show _ = _
        kernel_rfl
      · show _ = _
        kernel_rfl
      conv => lhs; whnf
      cases hb35 : ((Op.bytesLess y34.toList v21.toList) || (y34.toList == v21.toList))
      · replace h := ifF h (booF hb35)
        conv => lhs; whnf
        try rw [len_of (l := (v23 ++ ([x25] : List Record))) (r := rRecord)]
        cases hb37 : (decide (((v23 ++ ([x25] : List Record)).length : Int) > 60))
        · replace h := ifF h (decF hb37)
          conv => lhs; whnf
          rw [wrap_nat i20 (by have := hn_i20; omega)]
          exact hnx24 _ _ _ _ (fun kk => by kernel_rfl) h
        · replace h := ifT h (decT hb37)
          conv => lhs; whnf
          obtain rfl := Option.some.inj h
          show _ = _
          kernel_rfl
      · replace h := ifT h hb35
        conv => lhs; whnf
        try rw [len_of (l := (v23 ++ ([x25] : List Record))) (r := rRecord)]
        cases hb36 : (decide (((v23 ++ ([x25] : List Record)).length : Int) > 60))
        · replace h := ifF h (decF hb36)
          conv => lhs; whnf
          rw [wrap_nat i20 (by have := hn_i20; omega)]
          exact hnx24 _ _ _ _ (fun kk => by kernel_rfl) h
        · replace h := ifT h (decT hb36)
          conv => lhs; whnf
          obtain rfl := Option.some.inj h
          show _ = _
          kernel_rfl
    · replace h := ifT h (decT hb26)
      conv => lhs; whnf
      try (rw [hb26]; conv => lhs; whnf)
      try (rw [hb26]; conv => lhs; whnf)
      try (rw [hb26]; conv => lhs; whnf)
      try (rw [decide_eq_true hq_x25]; conv => lhs; whnf)
      rw [hx_x25]
      conv => lhs; whnf
      try (rw [hb26]; conv => lhs; whnf)
      try (rw [hb26]; conv => lhs; whnf)
      rw [hx_x25]
      conv => lhs; whnf
      try (rw [hb26]; conv => lhs; whnf)
      try (rw [hb26]; conv => lhs; whnf)
      cases hb27 : ((Op.bytesLess v21.toList x25.Key.toList) || (v21.toList == x25.Key.toList))
      · replace h := ifF h (booF hb27)
        conv => lhs; whnf
        try (rw [decide_eq_true hq_x25]; conv => lhs; whnf)
        rw [hx_x25]
        conv => lhs; whnf
        rw [hx_x25]
        conv => lhs; whnf
        obtain ⟨hg40, h⟩ := grd_inv h
        rw [app_eq hg40 ?h1 ?h2]
        case h1 => first | exact rfl | (simp only [List.length_map, List.length_cons, List.length_nil]; done) | (rw [List.length_map]; rfl)
        case h2 => exact rfl
        conv => lhs; whnf
        first | (rw [map_app_of (r := rRecord) (l := v23) (m := ([x25] : List Record)) ?hh]; case hh => exact rfl) | skip
        try (rw [decide_eq_true hq_x25]; conv => lhs; whnf)
        rw [hx_x25]
        conv => lhs; whnf
        rw [hx_x25]
        conv => lhs; whnf
        obtain ⟨y30, h_y30, h⟩ := callK_inv h
        rw [cl_eq hcl (L_spec_l26High x25 h_y30)]
        rotate_left
        · show _ = _
          kernel_rfl
        · show _ = _
          kernel_rfl
        conv => lhs; whnf
        cases hb31 : ((Op.bytesLess y30.toList v21.toList) || (y30.toList == v21.toList))
        · replace h := ifF h (booF hb31)
          conv => lhs; whnf
          try rw [len_of (l := (v23 ++ ([x25] : List Record))) (r := rRecord)]
          cases hb33 : (decide (((v23 ++ ([x25] : List Record)).length : Int) > 60))
          · replace h := ifF h (decF hb33)
            conv => lhs; whnf
            rw [wrap_nat i20 (by have := hn_i20; omega)]
            exact hnx24 _ _ _ _ (fun kk => by kernel_rfl) h
          · replace h := ifT h (decT hb33)
            conv => lhs; whnf
            obtain rfl := Option.some.inj h
            show _ = _
            kernel_rfl
        · replace h := ifT h hb31
          conv => lhs; whnf
          try rw [len_of (l := (v23 ++ ([x25] : List Record))) (r := rRecord)]
          cases hb32 : (decide (((v23 ++ ([x25] : List Record)).length : Int) > 60))
          · replace h := ifF h (decF hb32)
            conv => lhs; whnf
            rw [wrap_nat i20 (by have := hn_i20; omega)]
            exact hnx24 _ _ _ _ (fun kk => by kernel_rfl) h
          · replace h := ifT h (decT hb32)
            conv => lhs; whnf
            obtain rfl := Option.some.inj h
            show _ = _
            kernel_rfl
      · replace h := ifT h hb27
        conv => lhs; whnf
        obtain ⟨hg41, h⟩ := grd_inv h
        rw [app_eq hg41 ?h1 ?h2]
        case h1 => first | exact rfl | (simp only [List.length_map, List.length_cons, List.length_nil]; done) | (rw [List.length_map]; rfl)
        case h2 => exact rfl
        conv => lhs; whnf
        first | (rw [map_app_of (r := (rL rRecord)) (l := v22) (m := ([v23] : List (List Record))) ?hh]; case hh => exact rfl) | skip
        try (rw [decide_eq_true hq_x25]; conv => lhs; whnf)
        rw [hx_x25]
        conv => lhs; whnf
        rw [hx_x25]
        conv => lhs; whnf
        try (rw [decide_eq_true hq_x25]; conv => lhs; whnf)
        rw [hx_x25]
        conv => lhs; whnf
        rw [hx_x25]
        conv => lhs; whnf
        obtain ⟨y28, h_y28, h⟩ := callK_inv h
        rw [cl_eq hcl (L_spec_l26High x25 h_y28)]
        rotate_left
        · show _ = _
          kernel_rfl
        · show _ = _
          kernel_rfl
        conv => lhs; whnf
        cases hb29 : ((Op.bytesLess y28.toList (⟨#[]⟩ : ByteArray).toList) || (y28.toList == (⟨#[]⟩ : ByteArray).toList))
        · replace h := ifF h (booF hb29)
          conv => lhs; whnf
          rw [wrap_nat i20 (by have := hn_i20; omega)]
          exact hnx24 _ _ _ _ (fun kk => by kernel_rfl) h
        · replace h := ifT h hb29
          conv => lhs; whnf
          rw [wrap_nat i20 (by have := hn_i20; omega)]
          exact hnx24 _ _ _ _ (fun kk => by kernel_rfl) h
  · clear h
    rintro next_nx24 ⟨v21, v22, v23⟩ r h
    try dsimp only at h
    have hd_i20 : (decide ((a_0.length : Int) < (a_0.length : Int))) = false := decide_eq_false (by omega)
    conv => lhs; whnf
    try rw [len_of (l := a_0) (r := rRecord)]
    rw [hd_i20]
    conv => lhs; whnf
    try rw [len_of (l := v23) (r := rRecord)]
    cases hb38 : (decide ((v23.length : Int) > 0))
    · replace h := ifF h (decF hb38)
      conv => lhs; whnf
      obtain rfl := Option.some.inj h
      show _ = _
      kernel_rfl
    · replace h := ifT h (decT hb38)
      conv => lhs; whnf
      obtain ⟨hg42, h⟩ := grd_inv h
      rw [app_eq hg42 ?h1 ?h2]
      case h1 => first | exact rfl | (simp only [List.length_map, List.length_cons, List.length_nil]; done) | (rw [List.length_map]; rfl)
      case h2 => exact rfl
      conv => lhs; whnf
      first | (rw [map_app_of (r := (rL rRecord)) (l := v22) (m := ([v23] : List (List Record))) ?hh]; case hh => exact rfl) | skip
      obtain rfl := Option.some.inj h
      show _ = _
      kernel_rfl

noncomputable def p_spec_SplitRun (a_0 : List Record) : Option ((List (List Record)) × Int) :=
  callK (p_spec_ValidRun a_0) fun y1 =>
  if y1 = true then
    callK (p_spec_l26Split a_0) fun y3 =>
    some (y3.1, y3.2)
  else
    some (([] : List (List Record)), 1)

set_option maxHeartbeats 4000000 in
theorem L_spec_SplitRun (a_0 : List Record) {r : ((List (List Record)) × Int)} (h : p_spec_SplitRun a_0 = some r) : callL E 26 [.d (.arr (a_0.map rRecord))] ([] : Fo) = some (.tup [.d (.arr (r.1.map (rL rRecord))), IN r.2], ([] : Fo)) := by
  unfold p_spec_SplitRun at h
  refine callW (fu := Try.f26) rfl rfl rfl NN ?_
  intro lp cl hlp hcl
  conv => lhs; whnf
  obtain ⟨y1, h_y1, h⟩ := callK_inv h
  rw [cl_eq hcl (L_spec_ValidRun a_0 h_y1)]
  rotate_left
  · show _ = _
    kernel_rfl
  · show _ = _
    kernel_rfl
  conv => lhs; whnf
  cases hb2 : y1
  · replace h := ifF h (booF hb2)
    conv => lhs; whnf
    obtain rfl := Option.some.inj h
    show _ = _
    kernel_rfl
  · replace h := ifT h hb2
    conv => lhs; whnf
    obtain ⟨y3, h_y3, h⟩ := callK_inv h
    rw [cl_eq hcl (L_spec_l26Split a_0 h_y3)]
    rotate_left
    · show _ = _
      kernel_rfl
    · show _ = _
      kernel_rfl
    conv => lhs; whnf
    obtain rfl := Option.some.inj h
    show _ = _
    kernel_rfl

noncomputable def p_spec_l26KeyRange (a_0 : List Record) : Option (ByteArray × ByteArray) :=
  grd (a_0.length < 4611686018427387904) <|
  forK a_0 (fun (i7 : Nat) x10 (v8 : ByteArray) (nx9 : ByteArray → Option _) =>
    callK (p_spec_l26High x10) fun y11 =>
    if ((Op.bytesLess y11.toList v8.toList) || (y11.toList == v8.toList)) = true then
      nx9 v8
    else
      nx9 y11) (⟨#[]⟩ : ByteArray) (fun (v8 : ByteArray) =>
    getK a_0 0 fun x13 =>
    some (x13.Key, v8))

set_option maxHeartbeats 4000000 in
theorem L_spec_l26KeyRange (a_0 : List Record) {r : (ByteArray × ByteArray)} (h : p_spec_l26KeyRange a_0 = some r) : callL E 96 [.d (.arr (a_0.map rRecord))] ([] : Fo) = some (.tup [ST r.1, ST r.2], ([] : Fo)) := by
  unfold p_spec_l26KeyRange at h
  refine callW (fu := Try.f96) rfl rfl rfl NN ?_
  intro lp cl hlp hcl
  conv => lhs; whnf
  obtain ⟨hl_i7, h⟩ := grd_inv h
  refine loop_for hlp (l := a_0) hl_i7 (fun (i7 : Nat) (v8 : ByteArray) => ([.d (.arr (a_0.map rRecord)), .dead, .dead, .dead, ST v8, IN (i7 : Int)] ++ List.replicate 21 .dead : List V)) (fun (i7 : Nat) (v8 : ByteArray) => ([] : Fo)) (fun (r : (ByteArray × ByteArray)) => ((.tup [ST r.1, ST r.2] : V), ([] : Fo))) ?_ ?_ (⟨#[]⟩ : ByteArray) _ (fun kk => by kernel_rfl) h
  · clear h
    rintro next_nx9 nx9 i7 hi_i7 hnx9 v8 r h
    try dsimp only at h
    have hn_i7 : i7 < 4611686018427387904 := by omega
    have hx_x10 := get_map rRecord a_0 i7 hi_i7
    generalize a_0[i7] = x10 at h hx_x10
    have hd_i7 : (decide ((i7 : Int) < (a_0.length : Int))) = true := decide_eq_true (by omega)
    conv => lhs; whnf
    try rw [len_of (l := a_0) (r := rRecord)]
    rw [hd_i7]
    conv => lhs; whnf
    try (rw [decide_eq_true hq_x10]; conv => lhs; whnf)
    rw [hx_x10]
    conv => lhs; whnf
    rw [hx_x10]
    conv => lhs; whnf
    obtain ⟨y11, h_y11, h⟩ := callK_inv h
    rw [cl_eq hcl (L_spec_l26High x10 h_y11)]
    rotate_left
    · show _ = _
      kernel_rfl
    · show _ = _
      kernel_rfl
    conv => lhs; whnf
    cases hb12 : ((Op.bytesLess y11.toList v8.toList) || (y11.toList == v8.toList))
    · replace h := ifF h (booF hb12)
      conv => lhs; whnf
      rw [wrap_nat i7 (by have := hn_i7; omega)]
      exact hnx9 _ _ _ _ (fun kk => by kernel_rfl) h
    · replace h := ifT h hb12
      conv => lhs; whnf
      rw [wrap_nat i7 (by have := hn_i7; omega)]
      exact hnx9 _ _ _ _ (fun kk => by kernel_rfl) h
  · clear h
    rintro next_nx9 v8 r h
    try dsimp only at h
    have hd_i7 : (decide ((a_0.length : Int) < (a_0.length : Int))) = false := decide_eq_false (by omega)
    conv => lhs; whnf
    try rw [len_of (l := a_0) (r := rRecord)]
    rw [hd_i7]
    conv => lhs; whnf
    obtain ⟨x13, hq_x13, hx_x13', h⟩ := getK_inv h
    have hx_x13 := get_of (r := rRecord) hx_x13'
    try (rw [decide_eq_true hq_x13]; conv => lhs; whnf)
    rw [hx_x13]
    conv => lhs; whnf
    rw [hx_x13]
    conv => lhs; whnf
    obtain rfl := Option.some.inj h
    show _ = _
    kernel_rfl

noncomputable def p_spec_KeyRange (a_0 : List Record) : Option (ByteArray × ByteArray) :=
  if (a_0.length : Int) = 0 then
    some ((⟨#[]⟩ : ByteArray), (⟨#[]⟩ : ByteArray))
  else
    callK (p_spec_ValidRun a_0) fun y2 =>
    if y2 = true then
      callK (p_spec_l26KeyRange a_0) fun y4 =>
      some (y4.1, y4.2)
    else
      some ((⟨#[]⟩ : ByteArray), (⟨#[]⟩ : ByteArray))

set_option maxHeartbeats 4000000 in
theorem L_spec_KeyRange (a_0 : List Record) {r : (ByteArray × ByteArray)} (h : p_spec_KeyRange a_0 = some r) : callL E 27 [.d (.arr (a_0.map rRecord))] ([] : Fo) = some (.tup [ST r.1, ST r.2], ([] : Fo)) := by
  unfold p_spec_KeyRange at h
  refine callW (fu := Try.f27) rfl rfl rfl NN ?_
  intro lp cl hlp hcl
  conv => lhs; whnf
  try rw [len_of (l := a_0) (r := rRecord)]
  cases hb1 : ((a_0.length : Int) == 0)
  · replace h := ifF h (beqF hb1)
    conv => lhs; whnf
    try (rw [hb1]; conv => lhs; whnf)
    obtain ⟨y2, h_y2, h⟩ := callK_inv h
    rw [cl_eq hcl (L_spec_ValidRun a_0 h_y2)]
    rotate_left
    · show _ = _
      kernel_rfl
    · show _ = _
      kernel_rfl
    conv => lhs; whnf
    try (rw [hb1]; conv => lhs; whnf)
    try (rw [hb1]; conv => lhs; whnf)
    cases hb3 : y2
    · replace h := ifF h (booF hb3)
      conv => lhs; whnf
      obtain rfl := Option.some.inj h
      show _ = _
      kernel_rfl
    · replace h := ifT h hb3
      conv => lhs; whnf
      obtain ⟨y4, h_y4, h⟩ := callK_inv h
      rw [cl_eq hcl (L_spec_l26KeyRange a_0 h_y4)]
      rotate_left
      · show _ = _
        kernel_rfl
      · show _ = _
        kernel_rfl
      conv => lhs; whnf
      obtain rfl := Option.some.inj h
      show _ = _
      kernel_rfl
  · replace h := ifT h (beqT hb1)
    conv => lhs; whnf
    try (rw [hb1]; conv => lhs; whnf)
    try (rw [hb1]; conv => lhs; whnf)
    try (rw [hb1]; conv => lhs; whnf)
    obtain rfl := Option.some.inj h
    show _ = _
    kernel_rfl

noncomputable def p_laws_FnSplit (a_0 : List Int) : Option Bool :=
  callK (p_laws_c2Big a_0 ([] : List Int)) fun y1 =>
  if y1 = true then
    some true
  else
    callK (p_spec_DrawSplitRun a_0) fun y3 =>
    callK (p_impl_SplitRun y3) fun y4 =>
    callK (p_spec_SplitRun y3) fun y5 =>
    if ¬ y4.2 = y5.2 then
      some false
    else
      if ¬ y4.2 = 0 then
        some ((y4.1.length : Int) == 0)
      else
        grd (y4.1.length < 4611686018427387904) <|
        forK y4.1 (fun (i31 : Nat) x35 ((v32, v33) : (Int × ByteArray)) (nx34 : (Int × ByteArray) → Option _) =>
          callK (p_spec_KeyRange x35) fun y36 =>
          if (x35.length : Int) = 0 then
            some false
          else
            if (Op.bytesLess y36.1.toList v33.toList) = true then
              some false
            else
              if (Op.bytesLess y36.1.toList y36.2.toList) = true then
                grd ((x35.length : Int) < 4611686018427387904) <|
                forI (x35.length : Int) (fun (i47 : Nat) (v48 : Int) (nx49 : Int → Option _) =>
                  if v48 ≥ (y3.length : Int) then
                    some false
                  else
                    getK y3 v48 fun x51 =>
                    getK x35 (i47 : Int) fun x52 =>
                    if ((x51.Key.toList == x52.Key.toList) && ((x51.Seq == x52.Seq) && ((x51.Kind == x52.Kind) && ((x51.Value.toList == x52.Value.toList) && ((x51.End.toList == x52.End.toList) && true))))) = true then
                      nx49 (IntKind.i64.wrap (v48 + 1))
                    else
                      some false) v32 (fun (v48 : Int) =>
                  nx34 (v48, y36.2))
              else
                some false) (0, (⟨#[]⟩ : ByteArray)) (fun ((v32, v33) : (Int × ByteArray)) =>
          some (v32 == (y3.length : Int)))

set_option maxHeartbeats 4000000 in
theorem L_laws_FnSplit (a_0 : List Int) {r : Bool} (h : p_laws_FnSplit a_0 = some r) : callL E 4 [.d (.arr (a_0.map rU))] ([] : Fo) = some (BO r, ([] : Fo)) := by
  unfold p_laws_FnSplit at h
  refine callW (fu := Try.f4) rfl rfl rfl NN ?_
  intro lp cl hlp hcl
  conv => lhs; whnf
  obtain ⟨y1, h_y1, h⟩ := callK_inv h
  rw [cl_eq hcl (L_laws_c2Big a_0 ([] : List Int) h_y1)]
  rotate_left
  · show _ = _
    kernel_rfl
  · show _ = _
    kernel_rfl
  conv => lhs; whnf
  cases hb2 : y1
  · replace h := ifF h (booF hb2)
    conv => lhs; whnf
    obtain ⟨y3, h_y3, h⟩ := callK_inv h
    rw [cl_eq hcl (L_spec_DrawSplitRun a_0 h_y3)]
    rotate_left
    · show _ = _
      kernel_rfl
    · show _ = _
      kernel_rfl
    conv => lhs; whnf
    obtain ⟨y4, h_y4, h⟩ := callK_inv h
    rw [cl_eq hcl (L_impl_SplitRun y3 h_y4)]
    rotate_left
    · show _ = _
      kernel_rfl
    · show _ = _
      kernel_rfl
    conv => lhs; whnf
    obtain ⟨y5, h_y5, h⟩ := callK_inv h
    rw [cl_eq hcl (L_spec_SplitRun y3 h_y5)]
    rotate_left
    · show _ = _
      kernel_rfl
    · show _ = _
      kernel_rfl
    conv => lhs; whnf
    cases hb6 : (y4.2 != y5.2)
    · replace h := ifF h ((fun h => not_not_intro (bneF h)) hb6)
      conv => lhs; whnf
      cases hb7 : (y4.2 != 0)
      · replace h := ifF h ((fun h => not_not_intro (bneF h)) hb7)
        conv => lhs; whnf
        obtain ⟨hl_i31, h⟩ := grd_inv h
        refine loop_for hlp (l := y4.1) hl_i31 (fun (i31 : Nat) ((v32, v33) : (Int × ByteArray)) => ([.dead, .dead, .dead, .d (.arr (y3.map rRecord)), .d (.arr (y4.1.map (rL rRecord))), .dead, .dead, .dead, IN v32, ST v33, IN (i31 : Int)] ++ List.replicate 89 .dead : List V)) (fun (i31 : Nat) ((v32, v33) : (Int × ByteArray)) => ([] : Fo)) (fun (r : Bool) => ((BO r : V), ([] : Fo))) ?_ ?_ (0, (⟨#[]⟩ : ByteArray)) _ (fun kk => by kernel_rfl) h
        · clear h
          rintro next_nx34 nx34 i31 hi_i31 hnx34 ⟨v32, v33⟩ r h
          try dsimp only at h
          have hn_i31 : i31 < 4611686018427387904 := by omega
          have hx_x35 := get_map (rL rRecord) y4.1 i31 hi_i31
          generalize y4.1[i31] = x35 at h hx_x35
          have hd_i31 : (decide ((i31 : Int) < (y4.1.length : Int))) = true := decide_eq_true (by omega)
          conv => lhs; whnf
          try rw [len_of (l := y4.1) (r := (rL rRecord))]
          rw [hd_i31]
          conv => lhs; whnf
          try (rw [decide_eq_true hq_x35]; conv => lhs; whnf)
          rw [hx_x35]
          conv => lhs; whnf
          rw [hx_x35]
          conv => lhs; whnf
          obtain ⟨y36, h_y36, h⟩ := callK_inv h
          rw [cl_eq hcl (L_spec_KeyRange x35 h_y36)]
          rotate_left
          · show _ = _
            kernel_rfl
          · show _ = _
            kernel_rfl
          conv => lhs; whnf
          try (rw [decide_eq_true hq_x35]; conv => lhs; whnf)
          rw [hx_x35]
          conv => lhs; whnf
          rw [hx_x35]
          conv => lhs; whnf
          try rw [len_of (l := x35) (r := rRecord)]
          cases hb37 : ((x35.length : Int) == 0)
          · replace h := ifF h (beqF hb37)
            conv => lhs; whnf
            try (rw [hb37]; conv => lhs; whnf)
            try (rw [hb37]; conv => lhs; whnf)
            try (rw [hb37]; conv => lhs; whnf)
            cases hb38 : (Op.bytesLess y36.1.toList v33.toList)
            · replace h := ifF h (booF hb38)
              conv => lhs; whnf
              try (rw [hb38]; conv => lhs; whnf)
              try (rw [hb38]; conv => lhs; whnf)
              try (rw [hb38]; conv => lhs; whnf)
              cases hb39 : (Op.bytesLess y36.1.toList y36.2.toList)
              · replace h := ifF h (booF hb39)
                conv => lhs; whnf
                obtain rfl := Option.some.inj h
                show _ = _
                kernel_rfl
              · replace h := ifT h hb39
                conv => lhs; whnf
                obtain ⟨hl_i47, h⟩ := grd_inv h
                refine loop_forI hlp (n := (x35.length : Int)) hl_i47 (fun (i47 : Nat) (v48 : Int) => ([.dead, .dead, .dead, .d (.arr (y3.map rRecord)), .d (.arr (y4.1.map (rL rRecord))), .dead, .dead, .dead, IN v48, ST y36.2, IN (i31 : Int), .dead, .dead, IN (i47 : Int)] ++ List.replicate 86 .dead : List V)) (fun (i47 : Nat) (v48 : Int) => ([] : Fo)) (fun (r : Bool) => ((BO r : V), ([] : Fo))) ?_ ?_ v32 _ (fun kk => by kernel_rfl) h
                · clear h
                  rintro next_nx49 nx49 i47 hi_i47 hnx49 v48 r h
                  try dsimp only at h
                  have hn_i47 : i47 < 4611686018427387904 := by omega
                  have hd_i47 : (decide ((i47 : Int) < (x35.length : Int))) = true := decide_eq_true (by omega)
                  conv => lhs; whnf
                  try (rw [decide_eq_true hq_x35]; conv => lhs; whnf)
                  rw [hx_x35]
                  conv => lhs; whnf
                  rw [hx_x35]
                  conv => lhs; whnf
                  try rw [len_of (l := x35) (r := rRecord)]
                  rw [hd_i47]
                  conv => lhs; whnf
                  try rw [len_of (l := y3) (r := rRecord)]
                  cases hb50 : (decide (v48 ≥ (y3.length : Int)))
                  · replace h := ifF h (decF hb50)
                    conv => lhs; whnf
                    try (rw [hb50]; conv => lhs; whnf)
                    try (rw [hb50]; conv => lhs; whnf)
                    obtain ⟨x51, hq_x51, hx_x51', h⟩ := getK_inv h
                    have hx_x51 := get_of (r := rRecord) hx_x51'
                    try (rw [decide_eq_true hq_x51]; conv => lhs; whnf)
                    rw [hx_x51]
                    conv => lhs; whnf
                    try (rw [hb50]; conv => lhs; whnf)
                    rw [hx_x51]
                    conv => lhs; whnf
                    try (rw [hb50]; conv => lhs; whnf)
                    try (rw [hb50]; conv => lhs; whnf)
                    try (rw [hb50]; conv => lhs; whnf)
                    try (rw [decide_eq_true hq_x35]; conv => lhs; whnf)
                    rw [hx_x35]
                    conv => lhs; whnf
                    try (rw [hb50]; conv => lhs; whnf)
                    rw [hx_x35]
                    conv => lhs; whnf
                    try (rw [hb50]; conv => lhs; whnf)
                    try (rw [hb50]; conv => lhs; whnf)
                    obtain ⟨x52, hq_x52, hx_x52', h⟩ := getK_inv h
                    have hx_x52 := get_of (r := rRecord) hx_x52'
                    try (rw [decide_eq_true hq_x52]; conv => lhs; whnf)
                    rw [hx_x52]
                    conv => lhs; whnf
                    try (rw [hb50]; conv => lhs; whnf)
                    rw [hx_x52]
                    conv => lhs; whnf
                    try (rw [hb50]; conv => lhs; whnf)
                    try (rw [hb50]; conv => lhs; whnf)
                    cases hb53 : ((x51.Key.toList == x52.Key.toList) && ((x51.Seq == x52.Seq) && ((x51.Kind == x52.Kind) && ((x51.Value.toList == x52.Value.toList) && ((x51.End.toList == x52.End.toList) && true)))))
                    · replace h := ifF h (booF hb53)
                      conv => lhs; whnf
                      obtain rfl := Option.some.inj h
                      show _ = _
                      kernel_rfl
                    · replace h := ifT h hb53
                      conv => lhs; whnf
                      rw [wrap_nat i47 (by have := hn_i47; omega)]
                      exact hnx49 _ _ _ _ (fun kk => by kernel_rfl) h
                  · replace h := ifT h (decT hb50)
                    conv => lhs; whnf
                    try (rw [hb50]; conv => lhs; whnf)
                    try (rw [hb50]; conv => lhs; whnf)
                    try (rw [hb50]; conv => lhs; whnf)
                    try (rw [hb50]; conv => lhs; whnf)
                    try (rw [hb50]; conv => lhs; whnf)
                    try (rw [hb50]; conv => lhs; whnf)
                    try (rw [hb50]; conv => lhs; whnf)
                    try (rw [hb50]; conv => lhs; whnf)
                    try (rw [hb50]; conv => lhs; whnf)
                    try (rw [hb50]; conv => lhs; whnf)
                    try (rw [hb50]; conv => lhs; whnf)
                    try (rw [hb50]; conv => lhs; whnf)
                    obtain rfl := Option.some.inj h
                    show _ = _
                    kernel_rfl
                · clear h
                  rintro next_nx49 v48 r h
                  try dsimp only at h
                  have hd_i47 : (decide (((Int.toNat (x35.length : Int)) : Int) < (x35.length : Int))) = false := decide_eq_false (by omega)
                  conv => lhs; whnf
                  try (rw [decide_eq_true hq_x35]; conv => lhs; whnf)
                  rw [hx_x35]
                  conv => lhs; whnf
                  rw [hx_x35]
                  conv => lhs; whnf
                  try rw [len_of (l := x35) (r := rRecord)]
                  rw [hd_i47]
                  conv => lhs; whnf
                  rw [wrap_nat i31 (by have := hn_i31; omega)]
                  exact hnx34 _ _ _ _ (fun kk => by kernel_rfl) h
            · replace h := ifT h hb38
              conv => lhs; whnf
              try (rw [hb38]; conv => lhs; whnf)
              try (rw [hb38]; conv => lhs; whnf)
              try (rw [hb38]; conv => lhs; whnf)
              obtain rfl := Option.some.inj h
              show _ = _
              kernel_rfl
          · replace h := ifT h (beqT hb37)
            conv => lhs; whnf
            try (rw [hb37]; conv => lhs; whnf)
            try (rw [hb37]; conv => lhs; whnf)
            try (rw [hb37]; conv => lhs; whnf)
            obtain rfl := Option.some.inj h
            show _ = _
            kernel_rfl
        · clear h
          rintro next_nx34 ⟨v32, v33⟩ r h
          try dsimp only at h
          have hd_i31 : (decide ((y4.1.length : Int) < (y4.1.length : Int))) = false := decide_eq_false (by omega)
          conv => lhs; whnf
          try rw [len_of (l := y4.1) (r := (rL rRecord))]
          rw [hd_i31]
          conv => lhs; whnf
          try rw [len_of (l := y3) (r := rRecord)]
          obtain rfl := Option.some.inj h
          show _ = _
          kernel_rfl
      · replace h := ifT h (bneT hb7)
        conv => lhs; whnf
        try rw [len_of (l := y4.1) (r := (rL rRecord))]
        obtain rfl := Option.some.inj h
        show _ = _
        kernel_rfl
    · replace h := ifT h (bneT hb6)
      conv => lhs; whnf
      obtain rfl := Option.some.inj h
      show _ = _
      kernel_rfl
  · replace h := ifT h hb2
    conv => lhs; whnf
    obtain rfl := Option.some.inj h
    show _ = _
    kernel_rfl
/-! ### Strings in order -/
theorem bl_irr : ∀ x : List UInt8, Op.bytesLess x x = false
  | [] => rfl
  | a :: x => by simp [Op.bytesLess, bl_irr x, UInt8.lt_irrefl]
theorem bl_tr : ∀ {x y z : List UInt8}, Op.bytesLess x y = true → Op.bytesLess y z = true → Op.bytesLess x z = true
  | _, [], _, h, _ => by
    rename_i x _
    cases x <;> simp [Op.bytesLess] at h
  | _, b :: y, [], _, h => by simp [Op.bytesLess] at h
  | [], b :: y, c :: z, _, _ => rfl
  | a :: x, b :: y, c :: z, h1, h2 => by
    simp only [Op.bytesLess, Bool.or_eq_true, Bool.and_eq_true, decide_eq_true_eq, beq_iff_eq] at h1 h2 ⊢
    rcases h1 with h1 | ⟨rfl, h1⟩
    · rcases h2 with h2 | ⟨rfl, h2⟩
      · exact .inl (UInt8.lt_trans h1 h2)
      · exact .inl h1
    · rcases h2 with h2 | ⟨rfl, h2⟩
      · exact .inl h2
      · exact .inr ⟨rfl, bl_tr h1 h2⟩
theorem bl_tri : ∀ {x y : List UInt8}, Op.bytesLess x y = false → Op.bytesLess y x = false → x = y
  | [], [], _, _ => rfl
  | [], _ :: _, h, _ => by simp [Op.bytesLess] at h
  | _ :: _, [], _, h => by simp [Op.bytesLess] at h
  | a :: x, b :: y, h1, h2 => by
    simp only [Op.bytesLess, Bool.or_eq_false_iff, decide_eq_false_iff_not, Bool.and_eq_false_iff, beq_eq_false_iff_ne, ne_eq] at h1 h2
    have he : a = b := by
      rcases UInt8.lt_or_eq_of_le (UInt8.not_lt.mp h2.1) with h | h
      · exact absurd h h1.1
      · exact h
    subst he
    rcases h1.2 with h | h
    · exact absurd rfl h
    · rcases h2.2 with h' | h'
      · exact absurd rfl h'
      · rw [bl_tri h h']
def kl (a b : ByteArray) : Prop := Op.bytesLess a.toList b.toList = true
theorem kl_irr (a : ByteArray) : ¬ kl a a := by unfold kl; rw [bl_irr]; simp
theorem kl_tr (a b c : ByteArray) (h1 : kl a b) (h2 : kl b c) : kl a c := bl_tr h1 h2
theorem kl_tri (a b : ByteArray) (h1 : ¬ kl a b) (h2 : ¬ kl b a) : a = b := by
  unfold kl at h1 h2
  have := bl_tri (by simpa using h1) (by simpa using h2)
  rw [toList_data, toList_data] at this
  exact bytes_ext this
theorem kl_b (a b : ByteArray) : (Op.bytesLess a.toList b.toList = true) = kl a b := rfl
theorem kl_as {a b : ByteArray} (h : kl a b) : ¬ kl b a := fun h2 => kl_irr _ (kl_tr _ _ _ h h2)
theorem kl_ne {a b : ByteArray} (h : kl a b) : a ≠ b := fun e => kl_irr a (by rw [← e] at h; exact h)
theorem kl_empty (a : ByteArray) : ¬ kl a ⟨#[]⟩ := by
  unfold kl
  rw [show (⟨#[]⟩ : ByteArray).toList = [] from by rw [toList_data]]
  cases a.toList <;> simp [Op.bytesLess]
theorem kl_pos {a : ByteArray} (h : a ≠ ⟨#[]⟩) : kl ⟨#[]⟩ a := Classical.byContradiction fun hn => h (kl_tri _ _ (kl_empty a) hn)
/-! ### Orders one behind the other -/
def Lx {α κ : Type} (f : α → κ) (r : κ → κ → Prop) (S : α → α → Prop) (a b : α) : Prop := r (f a) (f b) ∨ (f a = f b ∧ S a b)
theorem Lx.tr {α κ : Type} {f : α → κ} {r : κ → κ → Prop} {S : α → α → Prop} (hr : ∀ x y z, r x y → r y z → r x z) (hS : ∀ a b c, S a b → S b c → S a c) (a b c : α) (h1 : Lx f r S a b) (h2 : Lx f r S b c) : Lx f r S a c := by
  rcases h1 with h1 | ⟨e1, h1⟩ <;> rcases h2 with h2 | ⟨e2, h2⟩
  · exact .inl (hr _ _ _ h1 h2)
  · exact .inl (e2 ▸ h1)
  · exact .inl (e1 ▸ h2)
  · exact .inr ⟨e1.trans e2, hS _ _ _ h1 h2⟩
theorem Lx.irr {α κ : Type} {f : α → κ} {r : κ → κ → Prop} {S : α → α → Prop} (hr : ∀ x, ¬ r x x) (hS : ∀ a, ¬ S a a) (a : α) : ¬ Lx f r S a a := by
  rintro (h | ⟨_, h⟩)
  · exact hr _ h
  · exact hS _ h
theorem Lx.tri {α κ : Type} {f : α → κ} {r : κ → κ → Prop} {S : α → α → Prop} (hr : ∀ x y, ¬ r x y → ¬ r y x → x = y) {a b : α} (h1 : ¬ Lx f r S a b) (h2 : ¬ Lx f r S b a) : f a = f b ∧ ¬ S a b ∧ ¬ S b a := by
  have e := hr (f a) (f b) (fun h => h1 (.inl h)) (fun h => h2 (.inl h))
  exact ⟨e, fun h => h1 (.inr ⟨e, h⟩), fun h => h2 (.inr ⟨e.symm, h⟩)⟩
/-- The internal order. -/
def RL : Record → Record → Prop := Lx (·.Key) kl (Lx (·.Seq) (· > ·) (Lx (·.Kind) (· < ·) (Lx (·.Value) kl fun a b => kl a.End b.End)))
theorem RL_tr (a b c : Record) : RL a b → RL b c → RL a c := by
  unfold RL
  refine Lx.tr kl_tr (Lx.tr (fun x y z h1 h2 => ?_) (Lx.tr (fun x y z h1 h2 => ?_) (Lx.tr kl_tr fun a b c h1 h2 => ?_))) a b c
  · exact Int.lt_trans h2 h1
  · exact Int.lt_trans h1 h2
  · exact kl_tr _ _ _ h1 h2
theorem RL_irr (a : Record) : ¬ RL a a := by
  unfold RL
  refine Lx.irr kl_irr (Lx.irr (fun x h => ?_) (Lx.irr (fun x h => ?_) (Lx.irr kl_irr fun a h => ?_))) a
  · exact Int.lt_irrefl _ h
  · exact Int.lt_irrefl _ h
  · exact kl_irr _ h
theorem RL_tri {a b : Record} (h1 : ¬ RL a b) (h2 : ¬ RL b a) : a = b := by
  obtain ⟨e1, h1, h2⟩ := Lx.tri kl_tri h1 h2
  obtain ⟨e2, h1, h2⟩ := Lx.tri (fun x y (h1 : ¬ x > y) (h2 : ¬ y > x) => by omega) h1 h2
  obtain ⟨e3, h1, h2⟩ := Lx.tri (fun x y (h1 : ¬ x < y) (h2 : ¬ y < x) => by omega) h1 h2
  obtain ⟨e4, h1, h2⟩ := Lx.tri kl_tri h1 h2
  have e5 := kl_tri _ _ h1 h2
  cases a; cases b
  simp_all
theorem RL_key {a b : Record} (h : RL a b) : kl a.Key b.Key ∨ a.Key = b.Key := h.imp id (·.1)
noncomputable def rl (a b : Record) : Bool := @decide (RL a b) (Classical.propDecidable _)
theorem rl_iff {a b : Record} : rl a b = true ↔ RL a b := by unfold rl; exact @decide_eq_true_iff _ (Classical.propDecidable _)
theorem rl_of {b : Bool} {x y : Record} (h : b = true ↔ RL x y) : b = rl x y := by rw [Bool.eq_iff_iff, h, rl_iff]
/-- Two rows in strict order with the same elements are one. -/
theorem sorted_ext {α : Type} {r : α → α → Prop} (tr : ∀ a b c, r a b → r b c → r a c) (irr : ∀ a, ¬ r a a) : ∀ {l m : List α}, l.Pairwise r → m.Pairwise r → (∀ x, x ∈ l ↔ x ∈ m) → l = m
  | [], [], _, _, _ => rfl
  | [], y :: m, _, _, h => by have := (h y).mpr (by simp); simp at this
  | x :: l, [], _, _, h => by have := (h x).mp (by simp); simp at this
  | x :: l, y :: m, h1, h2, h => by
    rw [List.pairwise_cons] at h1 h2
    have e : x = y := by
      rcases List.mem_cons.mp ((h x).mp (by simp)) with e | hx
      · exact e
      · rcases List.mem_cons.mp ((h y).mpr (by simp)) with e | hy
        · exact e.symm
        · exact absurd (tr _ _ _ (h1.1 y hy) (h2.1 x hx)) (irr x)
    subst e
    congr 1
    refine sorted_ext tr irr h1.2 h2.2 fun z => ?_
    constructor
    · intro hz
      rcases List.mem_cons.mp ((h z).mp (by simp [hz])) with e | h'
      · subst e; exact absurd (h1.1 z hz) (irr z)
      · exact h'
    · intro hz
      rcases List.mem_cons.mp ((h z).mpr (by simp [hz])) with e | h'
      · subst e; exact absurd (h2.1 z hz) (irr z)
      · exact h'
/-! ### A record put to its place -/
noncomputable def into : List Record → Record → List Record
  | [], r => [r]
  | x :: l, r => if rl x r = true then x :: into l r else @ite _ (x = r) (Classical.propDecidable _) (x :: l) (r :: x :: l)
theorem into_mem {x r : Record} : ∀ {l : List Record}, x ∈ into l r ↔ x ∈ l ∨ x = r
  | [] => by simp [into]
  | y :: l => by
    unfold into
    split
    · rw [List.mem_cons, into_mem (l := l), List.mem_cons, or_assoc]
    · split
      · rename_i e
        subst e
        simp
        intro h; subst h; exact .inl rfl
      · simp only [List.mem_cons]
        constructor
        · rintro (h | h | h)
          · exact .inr h
          · exact .inl (.inl h)
          · exact .inl (.inr h)
        · rintro ((h | h) | h)
          · exact .inr (.inl h)
          · exact .inr (.inr h)
          · exact .inl h
theorem into_sorted {r : Record} : ∀ {l : List Record}, l.Pairwise RL → (into l r).Pairwise RL
  | [], _ => by simp [into]
  | y :: l, h => by
    unfold into
    rw [List.pairwise_cons] at h
    split
    · rename_i c
      refine List.pairwise_cons.mpr ⟨fun x hx => ?_, into_sorted h.2⟩
      rcases into_mem.mp hx with hx | rfl
      · exact h.1 x hx
      · exact rl_iff.mp c
    · rename_i c
      split
      · exact List.pairwise_cons.mpr h
      · rename_i e
        have hry : RL r y := Classical.byContradiction fun hn => e (RL_tri (fun h => c (rl_iff.mpr h)) hn)
        refine List.pairwise_cons.mpr ⟨fun x hx => ?_, List.pairwise_cons.mpr h⟩
        rcases List.mem_cons.mp hx with rfl | hx
        · exact hry
        · exact RL_tr _ _ _ hry (h.1 x hx)
theorem into_len {r : Record} : ∀ {l : List Record}, r ∉ l → (into l r).length = l.length + 1
  | [], _ => rfl
  | y :: l, h => by
    unfold into
    split
    · simp only [List.length_cons, into_len (l := l) (r := r) (fun hm => h (List.mem_cons_of_mem _ hm))]
    · split
      · rename_i e; exact absurd (by simp [e]) h
      · rfl
theorem into_len_le (r : Record) : ∀ (l : List Record), (into l r).length ≤ l.length + 1
  | [] => by simp [into]
  | y :: l => by
    unfold into
    split
    · have := into_len_le r l; simp only [List.length_cons]; omega
    · split <;> simp
theorem into_at {r : Record} : ∀ {l : List Record} {i : Nat} (hi : i < l.length), (∀ j (hj : j < i), rl (l[j]'(by omega)) r = true) → rl l[i] r = false → into l r = @ite _ (l[i] = r) (Classical.propDecidable _) l (l.take i ++ r :: l.drop i)
  | x :: l, 0, hi, _, h => by
    unfold into
    simp only [List.getElem_cons_zero] at h ⊢
    rw [if_neg (by rw [h]; decide)]
    by_cases e : x = r
    · rw [if_pos e, if_pos e]
    · rw [if_neg e, if_neg e]; rfl
  | x :: l, i + 1, hi, h1, h => by
    have h0 := h1 0 (by omega)
    simp only [List.getElem_cons_zero] at h0
    unfold into
    rw [if_pos h0, into_at (l := l) (i := i) (by simpa using hi) (fun j hj => by have := h1 (j + 1) (by omega); simpa using this) (by simpa using h)]
    simp only [List.getElem_cons_succ]
    split <;> rfl
theorem into_end {r : Record} : ∀ {l : List Record}, (∀ x ∈ l, rl x r = true) → into l r = l ++ [r]
  | [], _ => rfl
  | x :: l, h => by
    unfold into
    rw [if_pos (h x (by simp)), into_end fun y hy => h y (by simp [hy])]; rfl
theorem fold_into : ∀ (l acc : List Record), acc.Pairwise RL → (∀ x ∈ acc, ∀ y ∈ l, x ≠ y) → l.Pairwise (· ≠ ·) → (l.foldl into acc).Pairwise RL ∧ (∀ x, x ∈ l.foldl into acc ↔ x ∈ acc ∨ x ∈ l) ∧ (l.foldl into acc).length = acc.length + l.length
  | [], acc, h, _, _ => ⟨h, by simp, by simp⟩
  | y :: l, acc, h, h1, h2 => by
    rw [List.pairwise_cons] at h2
    rw [List.foldl_cons]
    obtain ⟨g1, g2, g3⟩ := fold_into l (into acc y) (into_sorted h) (fun x hx z hz => by
      rcases into_mem.mp hx with hx | rfl
      · exact h1 x hx z (by simp [hz])
      · exact h2.1 z hz) h2.2
    refine ⟨g1, fun x => ?_, ?_⟩
    · rw [g2, into_mem, List.mem_cons, or_assoc]
    · rw [g3, into_len (fun hm => h1 y hm y (by simp) rfl), List.length_cons]; omega
theorem fold_into_mem : ∀ (l acc : List Record) (x : Record), x ∈ l.foldl into acc ↔ x ∈ acc ∨ x ∈ l
  | [], acc, x => by simp
  | y :: l, acc, x => by rw [List.foldl_cons, fold_into_mem, into_mem, List.mem_cons, or_assoc]
theorem fold_into_sorted : ∀ (l acc : List Record), acc.Pairwise RL → (l.foldl into acc).Pairwise RL
  | [], acc, h => h
  | y :: l, acc, h => by rw [List.foldl_cons]; exact fold_into_sorted l _ (into_sorted h)
/-! ### Valid records, runs -/
def okKey (k : ByteArray) : Bool := inR (k.size : Int) 1 8
def isE (s : ByteArray) : Bool := s.toList == (⟨#[]⟩ : ByteArray).toList
theorem isE_iff {s : ByteArray} : isE s = true ↔ s = ⟨#[]⟩ := by unfold isE; rw [str_eq]; exact decide_eq_true_iff
def okRec (r : Record) : Bool := okKey r.Key && (inR r.Seq 1 1000000 && (if r.Kind = 1 then decide ((r.Value.size : Int) ≤ 16) && isE r.End else if r.Kind = 2 then isE r.Value && isE r.End else if r.Kind = 3 then isE r.Value && (okKey r.End && Op.bytesLess r.Key.toList r.End.toList) else false))
theorem okKey_ne {k : ByteArray} (h : okKey k = true) : k ≠ ⟨#[]⟩ := by
  rintro rfl
  have := inR_iff.mp h
  simp [ByteArray.size] at this
theorem okRec_seq {r : Record} (h : okRec r = true) : 1 ≤ r.Seq ∧ r.Seq ≤ 1000000 := by
  unfold okRec at h
  simp only [Bool.and_eq_true] at h
  exact inR_iff.mp h.2.1
theorem okRec_key {r : Record} (h : okRec r = true) : okKey r.Key = true := by
  unfold okRec at h
  simp only [Bool.and_eq_true] at h
  exact h.1
structure Run (l : List Record) : Prop where
  ok : ∀ r ∈ l, okRec r = true
  srt : l.Pairwise RL
  inj : ∀ a ∈ l, ∀ b ∈ l, a.Seq = b.Seq → a = b
theorem Run.sub {l m : List Record} (h : Run l) (hs : m.Sublist l) : Run m := ⟨fun r hr => h.ok r (hs.subset hr), h.srt.sublist hs, fun a ha b hb => h.inj a (hs.subset ha) b (hs.subset hb)⟩
theorem Run.filter {l : List Record} (h : Run l) (p : Record → Bool) : Run (l.filter p) := h.sub List.filter_sublist
theorem Run.nil : Run [] := ⟨fun r hr => by simp at hr, .nil, fun a ha => by simp at ha⟩
theorem Run.ne {l : List Record} (h : Run l) : l.Pairwise (· ≠ ·) := h.srt.imp fun hr e => by subst e; exact RL_irr _ hr
theorem Run.into {l : List Record} (h : Run l) {r : Record} (hr : okRec r = true) (hn : ∀ x ∈ l, x.Seq ≠ r.Seq) : Run (into l r) := by
  refine ⟨fun x hx => ?_, into_sorted h.srt, fun a ha b hb e => ?_⟩
  · rcases into_mem.mp hx with hx | rfl
    · exact h.ok x hx
    · exact hr
  · rcases into_mem.mp ha with a1 | a1 <;> rcases into_mem.mp hb with b1 | b1
    · exact h.inj a a1 b b1 e
    · exact absurd (by rw [e, b1]) (hn a a1)
    · exact absurd (by rw [← e, a1]) (hn b b1)
    · rw [a1, b1]
/-! ### What a record does to a key -/
def aff (r : Record) (k : ByteArray) : Bool := if r.Kind = 3 then (Op.bytesLess r.Key.toList k.toList || r.Key.toList == k.toList) && Op.bytesLess k.toList r.End.toList else r.Key.toList == k.toList
theorem aff_key {r : Record} (h : r.Kind ≠ 3) {k : ByteArray} (ha : aff r k = true) : r.Key = k := by
  unfold aff at ha
  rw [if_neg h, str_eq] at ha
  exact of_decide_eq_true ha
def zR : Record := ⟨⟨#[]⟩, 0, 0, ⟨#[]⟩, ⟨#[]⟩⟩
/-- The newest record that affects a key, up to a sequence number. -/
structure New (l : List Record) (k : ByteArray) (s : Int) (n : Record) : Prop where
  has : n = zR ∨ (n ∈ l ∧ aff n k = true ∧ n.Seq ≤ s)
  top : ∀ x ∈ l, aff x k = true → x.Seq ≤ s → x.Seq ≤ n.Seq
theorem New.uniq {l : List Record} (h : Run l) {k : ByteArray} {s : Int} {n m : Record} (h1 : New l k s n) (h2 : New l k s m) : n = m := by
  rcases h1.has with e1 | ⟨a1, a2, a3⟩ <;> rcases h2.has with e2 | ⟨b1, b2, b3⟩
  · rw [e1, e2]
  · have := h1.top m b1 b2 b3
    have := okRec_seq (h.ok m b1)
    rw [e1] at *
    unfold zR at *
    dsimp only at *
    omega
  · have := h2.top n a1 a2 a3
    have := okRec_seq (h.ok n a1)
    rw [e2] at *
    unfold zR at *
    dsimp only at *
    omega
  · have h3 := h1.top m b1 b2 b3
    have h4 := h2.top n a1 a2 a3
    exact h.inj n a1 m b1 (by omega)
def getV (n : Record) : Option ByteArray := if n.Seq > 0 ∧ n.Kind = 1 then some n.Value else none
/-! ### The keys of a run -/
def keysG : ByteArray → List Record → List ByteArray
  | _, [] => []
  | last, x :: l => if (x.Key.toList == last.toList) = true then keysG last l else x.Key :: keysG x.Key l
theorem keysG_mem {k : ByteArray} : ∀ {l : List Record} {last : ByteArray}, k ∈ keysG last l → ∃ x ∈ l, x.Key = k
  | [], _, h => by simp [keysG] at h
  | x :: l, last, h => by
    unfold keysG at h
    split at h
    · obtain ⟨y, h1, h2⟩ := keysG_mem h
      exact ⟨y, by simp [h1], h2⟩
    · rcases List.mem_cons.mp h with rfl | h
      · exact ⟨x, by simp, rfl⟩
      · obtain ⟨y, h1, h2⟩ := keysG_mem h
        exact ⟨y, by simp [h1], h2⟩
theorem keysG_of {k : ByteArray} : ∀ {l : List Record} {last : ByteArray}, k ≠ last → (∃ x ∈ l, x.Key = k) → k ∈ keysG last l
  | [], _, _, ⟨x, h, _⟩ => by simp at h
  | y :: l, last, hne, ⟨x, hx, hk⟩ => by
    unfold keysG
    split
    · rename_i e
      rw [str_eq, decide_eq_true_eq] at e
      rcases List.mem_cons.mp hx with rfl | hx
      · exact absurd (hk.symm.trans e) hne
      · exact keysG_of hne ⟨x, hx, hk⟩
    · by_cases e : k = y.Key
      · rw [e]; simp
      · rcases List.mem_cons.mp hx with rfl | hx
        · exact absurd hk.symm e
        · exact List.mem_cons_of_mem _ (keysG_of e ⟨x, hx, hk⟩)
theorem keysG_sorted : ∀ {l : List Record} {last : ByteArray}, l.Pairwise RL → (∀ x ∈ l, kl last x.Key ∨ last = x.Key) → (last :: keysG last l).Pairwise kl
  | [], _, _, _ => by simp [keysG]
  | x :: l, last, h, hl => by
    rw [List.pairwise_cons] at h
    unfold keysG
    split
    · exact keysG_sorted h.2 fun y hy => hl y (by simp [hy])
    · rename_i e
      rw [str_eq, decide_eq_true_eq] at e
      have hx : kl last x.Key := (hl x (by simp)).resolve_right fun h => e h.symm
      have ih := keysG_sorted (l := l) (last := x.Key) h.2 fun y hy => RL_key (h.1 y hy)
      refine List.pairwise_cons.mpr ⟨fun k hk => ?_, ih⟩
      rcases List.mem_cons.mp hk with rfl | hk
      · exact hx
      · exact kl_tr _ _ _ hx ((List.pairwise_cons.mp ih).1 k hk)
def keysOf (l : List Record) : List ByteArray := keysG ⟨#[]⟩ l
theorem keysOf_sorted {l : List Record} (h : Run l) : (keysOf l).Pairwise kl := (List.pairwise_cons.mp (keysG_sorted h.srt fun x hx => .inl (kl_pos (okKey_ne (okRec_key (h.ok x hx)))))).2
theorem keysOf_mem {l : List Record} (h : Run l) {k : ByteArray} : k ∈ keysOf l ↔ ∃ x ∈ l, x.Key = k := ⟨keysG_mem, fun ⟨x, hx, hk⟩ => keysG_of (by rw [← hk]; exact okKey_ne (okRec_key (h.ok x hx))) ⟨x, hx, hk⟩⟩
/-- What is visible of a run: each key with its value. -/
def visOf (g : ByteArray → Option ByteArray) (ks : List ByteArray) : List Pair := ks.filterMap fun k => (g k).map fun v => ⟨k, v⟩
theorem vis_eq {A B : List Record} (hA : Run A) (hB : Run B) {g : ByteArray → Option ByteArray} (h : ∀ k, g k ≠ none → (∃ x ∈ A, x.Key = k) ∧ ∃ x ∈ B, x.Key = k) : visOf g (keysOf A) = visOf g (keysOf B) := by
  have e : ∀ ks : List ByteArray, visOf g ks = visOf g (ks.filter fun k => (g k).isSome) := by
    intro ks
    unfold visOf
    induction ks with
    | nil => rfl
    | cons k ks ih =>
      rw [List.filterMap_cons, List.filter_cons]
      cases hg : g k with
      | none => simp only [Option.map_none, Option.isSome_none, Bool.false_eq_true, if_false]; exact ih
      | some v => simp only [Option.map_some, Option.isSome_some, if_true, List.filterMap_cons, hg]; rw [ih]
  rw [e, e (keysOf B)]
  congr 1
  refine sorted_ext kl_tr kl_irr ((keysOf_sorted hA).filter _) ((keysOf_sorted hB).filter _) fun k => ?_
  simp only [List.mem_filter, keysOf_mem hA, keysOf_mem hB, Option.isSome_iff_ne_none]
  exact ⟨fun ⟨_, h2⟩ => ⟨(h k h2).2, h2⟩, fun ⟨_, h2⟩ => ⟨(h k h2).1, h2⟩⟩

theorem less_cmp : ∀ (x y : List UInt8), Op.bytesLess x y = decide (Lib.compareBytes x y < 0)
  | _, [] => by
    rename_i x
    cases x <;> rfl
  | [], _ :: _ => rfl
  | a :: x, b :: y => by
    rw [Op.bytesLess, Lib.compareBytes, less_cmp x y]
    by_cases h1 : a < b
    · simp [h1]
    · by_cases h2 : b < a
      · have hne : a ≠ b := fun e => by subst e; exact h1 h2
        simp [h1, h2, hne]
      · have he : a = b := by
          have e1 : ¬ a.toNat < b.toNat := fun h => h1 (by rwa [UInt8.lt_iff_toNat_lt])
          have e2 : ¬ b.toNat < a.toNat := fun h => h2 (by rwa [UInt8.lt_iff_toNat_lt])
          exact UInt8.toNat_inj.mp (by omega)
        simp [h1, h2, he]
theorem cmp_zero : ∀ (x y : List UInt8), Lib.compareBytes x y = 0 ↔ x = y
  | [], [] => by simp [Lib.compareBytes]
  | [], _ :: _ => by simp [Lib.compareBytes]
  | _ :: _, [] => by simp [Lib.compareBytes]
  | a :: x, b :: y => by
    rw [Lib.compareBytes]
    by_cases h1 : a < b
    · have hne : a ≠ b := fun e => by subst e; rw [UInt8.lt_iff_toNat_lt] at h1; omega
      simp [h1, hne]
    · by_cases h2 : b < a
      · have hne : a ≠ b := fun e => by subst e; exact h1 h2
        simp [h1, h2, hne]
      · have he : a = b := by
          have e1 : ¬ a.toNat < b.toNat := fun h => h1 (by rwa [UInt8.lt_iff_toNat_lt])
          have e2 : ¬ b.toNat < a.toNat := fun h => h2 (by rwa [UInt8.lt_iff_toNat_lt])
          exact UInt8.toNat_inj.mp (by omega)
        simp [h1, h2, he, cmp_zero x y]
theorem cmpB_lt {a b : ByteArray} : cmpB a b < 0 ↔ kl a b := by
  unfold cmpB kl
  rw [toList_data, toList_data, less_cmp, decide_eq_true_iff]
theorem cmpB_eq {a b : ByteArray} : cmpB a b = 0 ↔ a = b := by
  unfold cmpB
  rw [cmp_zero]
  exact ⟨bytes_ext, fun h => by rw [h]⟩

/-! ### What the functions on records come to -/
theorem ifs_pos {R : Type} {a b : ByteArray} (h : a = b) (x y : Option R) : (if (a.toList == b.toList) = true then x else y) = x := by rw [if_pos]; rw [str_eq]; exact decide_eq_true h
theorem ifs_neg {R : Type} {a b : ByteArray} (h : a ≠ b) (x y : Option R) : (if (a.toList == b.toList) = true then x else y) = y := by rw [if_neg]; rw [str_eq]; simpa using h
theorem pl_sLess (a b : Record) : p_spec_l17Less a b = some (rl a b) := by
  unfold p_spec_l17Less
  by_cases k : a.Key = b.Key
  · rw [ifs_pos k]
    by_cases s : a.Seq = b.Seq
    · rw [if_neg (by simpa using s)]
      by_cases d : a.Kind = b.Kind
      · rw [if_neg (by simpa using d)]
        by_cases v : a.Value = b.Value
        · rw [ifs_pos v]
          congr 1
          exact rl_of (by rw [kl_b]; simp [RL, Lx, k, s, d, v, kl_irr])
        · rw [ifs_neg v]
          congr 1
          exact rl_of (by rw [kl_b]; simp [RL, Lx, k, s, d, v, kl_irr])
      · rw [if_pos d]
        congr 1
        exact rl_of (by simp [RL, Lx, k, s, d, kl_irr])
    · rw [if_pos s]
      congr 1
      exact rl_of (by simp [RL, Lx, k, s, kl_irr])
  · rw [ifs_neg k]
    congr 1
    exact rl_of (by rw [kl_b]; simp [RL, Lx, k])
def cmpN (a b : Int) : Int := if a < b then -1 else if a > b then 1 else 0
theorem pl_cmp (a b : Int) : p_cmp_Compare a b = some (cmpN a b) := by
  unfold p_cmp_Compare p_cmp_isNaN cmpN
  simp only [callK_some, bne_self_eq_false, Bool.false_eq_true, if_false]
  repeat' split
  all_goals rfl
theorem pl_or5 (a b c d e : Int) : p_cmp_Or ([a, b, c, d, e] : List Int) = some (if a ≠ 0 then a else if b ≠ 0 then b else if c ≠ 0 then c else if d ≠ 0 then d else e) := by
  unfold p_cmp_Or forK
  rw [grd_pos (by simp)]
  simp only [forGo_cons, forGo_nil]
  repeat' split
  all_goals simp_all
theorem pl_iLess (a b : Record) : p_impl_LessRecord a b = some (rl a b) := by
  unfold p_impl_LessRecord p_impl_compareRecords
  rw [pl_cmp, callK_some, pl_cmp, callK_some, pl_or5, callK_some, callK_some]
  congr 1
  refine rl_of ?_
  rw [decide_eq_true_iff]
  have e1 := cmpB_eq (a := a.Key) (b := b.Key)
  have l1 := cmpB_lt (a := a.Key) (b := b.Key)
  have e4 := cmpB_eq (a := a.Value) (b := b.Value)
  have l4 := cmpB_lt (a := a.Value) (b := b.Value)
  have l5 := cmpB_lt (a := a.End) (b := b.End)
  generalize cmpB a.Key b.Key = x1 at *
  generalize cmpB a.Value b.Value = x4 at *
  generalize cmpB a.End b.End = x5 at *
  simp only [RL, Lx]
  rw [← l1, ← l4, ← l5, ← e1, ← e4]
  unfold cmpN
  by_cases k : x1 = 0
  · subst k
    rw [if_neg (by simp)]
    rcases Int.lt_trichotomy b.Seq a.Seq with s | s | s
    · simp [s]
    · simp only [s, Int.lt_irrefl, gt_iff_lt, if_false, ne_eq, not_true_eq_false, false_or, true_and]
      rcases Int.lt_trichotomy a.Kind b.Kind with d | d | d
      · simp [d]
      · simp only [d, Int.lt_irrefl, if_false, not_true_eq_false, false_or, true_and]
        by_cases v : x4 = 0
        · subst v; simp
        · simp [v]
      · have d2 : ¬ a.Kind < b.Kind := by omega
        have d3 : ¬ a.Kind = b.Kind := by omega
        simp [d, d2, d3]
    · have s2 : ¬ b.Seq < a.Seq := by omega
      have s3 : ¬ a.Seq = b.Seq := by omega
      simp [s, s2, s3]
  · rw [if_pos k]
    simp [k]
theorem pl_iKey (k : ByteArray) : p_impl_ValidKey k = some (okKey k) := rfl
theorem pl_sKey (k : ByteArray) : p_spec_l17Key k = some (okKey k) := by
  unfold p_spec_l17Key okKey
  split
  · rename_i h
    congr 1
    rw [Bool.eq_iff_iff, decide_eq_true_iff, inR_iff]
    omega
  · rename_i h
    rw [inR_not.mpr (by omega)]
theorem pl_sRec (r : Record) : p_spec_l17Valid r = some (okRec r) := by
  unfold p_spec_l17Valid okRec
  rw [pl_sKey, callK_some]
  cases okKey r.Key
  · rfl
  cases inR r.Seq 1 1000000
  · rfl
  simp only [if_true, Bool.true_and]
  by_cases k1 : r.Kind = 1
  · rw [if_pos k1, if_pos k1]
    by_cases hv : (r.Value.size : Int) ≤ 16
    · rw [if_pos hv]; simp [hv, isE]
    · rw [if_neg hv]; simp [hv]
  · rw [if_neg k1, if_neg k1]
    by_cases k2 : r.Kind = 2
    · rw [if_pos k2, if_pos k2]
      unfold isE
      cases r.Value.toList == (⟨#[]⟩ : ByteArray).toList <;> rfl
    · rw [if_neg k2, if_neg k2]
      by_cases k3 : r.Kind = 3
      · rw [if_pos k3, if_pos k3, pl_sKey, callK_some]
        unfold isE
        cases r.Value.toList == (⟨#[]⟩ : ByteArray).toList <;> cases okKey r.End <;> rfl
      · rw [if_neg k3, if_neg k3]
theorem less_not (a b : ByteArray) : (!(Op.bytesLess a.toList b.toList || a.toList == b.toList)) = Op.bytesLess b.toList a.toList := by
  rw [str_eq, Bool.eq_iff_iff]
  simp only [Bool.not_eq_true', Bool.or_eq_false_iff, decide_eq_false_iff_not]
  constructor
  · rintro ⟨h1, h2⟩
    exact Classical.byContradiction fun h => h2 (kl_tri a b (by unfold kl; rw [h1]; simp) h)
  · intro h
    have h : kl b a := h
    refine ⟨?_, (kl_ne h).symm⟩
    have := kl_as h
    unfold kl at this
    simpa using this
theorem pl_iRec (r : Record) : p_impl_ValidRecord r = some (okRec r) := by
  rw [← pl_sRec]
  unfold p_impl_ValidRecord p_spec_l17Valid
  simp only [pl_iKey, pl_sKey, callK_some, less_not]
theorem mget_put (m z : Int) : ∀ (l : List (Int × Bool)) (n : Int) (x d : Bool), mgetT (mputT l n x) m d = if m = n then x else mgetT l m d
  | [], n, x, d => by
    simp only [mputT, mgetT]
    by_cases h : n = m
    · rw [if_pos h, if_pos h.symm]
    · rw [if_neg h, if_neg (Ne.symm h)]
  | (a, y) :: l, n, x, d => by
    simp only [mputT]
    by_cases h : a = n
    · subst h
      rw [if_pos rfl]
      simp only [mgetT]
      by_cases h2 : a = m
      · rw [if_pos h2, if_pos h2.symm]
      · rw [if_neg h2, if_neg (Ne.symm h2), if_neg h2]
    · rw [if_neg h]
      simp only [mgetT]
      by_cases h2 : a = m
      · rw [if_pos h2, if_pos h2, if_neg (fun e => h (h2.trans e))]
      · rw [if_neg h2, if_neg h2, mget_put m z l n x d]
theorem rec_eq (x r : Record) : ((x.Key.toList == r.Key.toList) && ((x.Seq == r.Seq) && ((x.Kind == r.Kind) && ((x.Value.toList == r.Value.toList) && ((x.End.toList == r.End.toList) && true))))) = @decide (x = r) (Classical.propDecidable _) := by
  rw [Bool.eq_iff_iff, @decide_eq_true_iff _ (Classical.propDecidable _)]
  simp only [str_eq, Bool.and_eq_true, beq_iff_eq, decide_eq_true_eq, and_true]
  constructor
  · rintro ⟨h1, h2, h3, h4, h5⟩
    cases x; cases r
    simp_all
  · rintro rfl; simp
theorem cut0 {α : Type} (l : List α) (n : Nat) : (l.drop (Int.toNat 0)).take (Int.toNat (n : Int) - Int.toNat 0) = l.take n := by simp
theorem cutE {α : Type} (l : List α) (n : Nat) : (l.drop (Int.toNat (n : Int))).take (Int.toNat (l.length : Int) - Int.toNat (n : Int)) = l.drop n := by
  rw [Int.toNat_natCast, Int.toNat_natCast]
  exact List.take_of_length_le (by rw [List.length_drop]; exact Nat.le_refl _)
theorem fold_into_le : ∀ (l acc : List Record), (l.foldl into acc).length ≤ acc.length + l.length
  | [], acc => by simp
  | y :: l, acc => by
    rw [List.foldl_cons]
    have h1 := fold_into_le l (into acc y)
    have h2 := into_len_le y acc
    rw [List.length_cons]; omega

/-! ### Runs, said by both -/
theorem run_snoc {m : List Record} (h : Run m) {r : Record} (h1 : okRec r = true) (h2 : ∀ x ∈ m, RL x r) (h3 : ∀ x ∈ m, x.Seq ≠ r.Seq) : Run (m ++ [r]) := by
  refine ⟨fun x hx => ?_, List.pairwise_append.mpr ⟨h.srt, by simp, fun a ha b hb => by rw [List.mem_singleton] at hb; subst hb; exact h2 a ha⟩, fun a ha b hb e => ?_⟩
  · rcases List.mem_append.mp hx with hx | hx
    · exact h.ok x hx
    · rw [List.mem_singleton] at hx; subst hx; exact h1
  · rcases List.mem_append.mp ha with a1 | a1 <;> rcases List.mem_append.mp hb with b1 | b1
    · exact h.inj a a1 b b1 e
    · rw [List.mem_singleton] at b1; subst b1; exact absurd e (h3 a a1)
    · rw [List.mem_singleton] at a1; subst a1; exact absurd e.symm (h3 b b1)
    · rw [List.mem_singleton] at a1 b1; rw [a1, b1]
theorem run_pre {l : List Record} (h : Run l) {i : Nat} (hi : i < l.length) : okRec l[i] = true ∧ (∀ j (hj : j < i), RL (l[j]'(by omega)) l[i]) ∧ ∀ j (hj : j < i), (l[j]'(by omega)).Seq ≠ l[i].Seq := by
  have h2 : ∀ j (hj : j < i), RL (l[j]'(by omega)) l[i] := fun j hj => List.pairwise_iff_getElem.mp h.srt j i (by omega) hi hj
  refine ⟨h.ok _ (List.getElem_mem hi), h2, fun j hj e => ?_⟩
  have := h.inj _ (List.getElem_mem (show j < l.length by omega)) _ (List.getElem_mem hi) e
  have h3 := h2 j hj
  rw [this] at h3
  exact RL_irr _ h3
theorem run_take {l : List Record} {i : Nat} (hi : i < l.length) (h : Run (l.take i)) (h1 : okRec l[i] = true) (h2 : ∀ hp : 0 < i, RL (l[i - 1]'(by omega)) l[i]) (h3 : ∀ j (hj : j < i), (l[j]'(by omega)).Seq ≠ l[i].Seq) : Run (l.take (i + 1)) := by
  rw [List.take_succ_eq_append_getElem hi]
  have hmem : ∀ x ∈ l.take i, ∃ j, ∃ hj : j < i, x = l[j]'(by omega) := fun x hx => by
    obtain ⟨j, hj, rfl⟩ := List.mem_iff_getElem.mp hx
    rw [List.length_take] at hj
    exact ⟨j, by omega, by rw [List.getElem_take]⟩
  refine run_snoc h h1 (fun x hx => ?_) (fun x hx => ?_)
  · obtain ⟨j, hj, rfl⟩ := hmem x hx
    by_cases e : j = i - 1
    · subst e; exact h2 (by omega)
    · refine RL_tr _ _ _ ?_ (h2 (by omega))
      have := List.pairwise_iff_getElem.mp h.srt j (i - 1) (by rw [List.length_take]; omega) (by rw [List.length_take]; omega) (by omega)
      rwa [List.getElem_take, List.getElem_take] at this
  · obtain ⟨j, hj, rfl⟩ := hmem x hx
    exact h3 j hj
theorem pl_iRun {l : List Record} (hl : l.length ≤ 1000000) : ∃ b, p_impl_ValidRun l = some b ∧ (b = true ↔ Run l) := by
  unfold p_impl_ValidRun
  rw [grd_pos (by omega)]
  refine forK_ex (fun i v => Run (l.take i) ∧ ∀ n, mgetT v n false = true ↔ ∃ j, ∃ (hj : j < l.length), j < i ∧ l[j].Seq = n) (fun i hi v hv nx hnx => ?_) (fun v hv => ⟨true, rfl, by have := hv.1; rw [List.take_length] at this; simp [this]⟩) _ ⟨by simpa using Run.nil, fun n => by simp [mgetT]⟩
  obtain ⟨hr, hv⟩ := hv
  have no : (Run l → False) → ∃ r, some false = some r ∧ (r = true ↔ Run l) := fun h => ⟨false, rfl, by simp; exact h⟩
  rw [pl_iRec, callK_some]
  by_cases h1 : okRec l[i] = true
  rotate_left
  · rw [if_neg h1]; exact no fun h => h1 (run_pre h hi).1
  rw [if_pos h1]
  by_cases h2 : mgetT v l[i].Seq false = true
  · rw [if_pos h2]
    obtain ⟨j, hj, hji, e⟩ := (hv _).mp h2
    exact no fun h => (run_pre h hi).2.2 j hji e
  rw [if_neg h2]
  have h3 : ∀ j (hj : j < i), (l[j]'(by omega)).Seq ≠ l[i].Seq := fun j hj e => h2 ((hv _).mpr ⟨j, by omega, hj, e⟩)
  have hput : ∀ n, mgetT (mputT v l[i].Seq true) n false = true ↔ ∃ j, ∃ (hj : j < l.length), j < i + 1 ∧ l[j].Seq = n := fun n => by
    rw [mget_put n 0]
    by_cases e : n = l[i].Seq
    · rw [if_pos e]; simp only [true_iff]; exact ⟨i, hi, by omega, e.symm⟩
    · rw [if_neg e, hv]
      constructor
      · rintro ⟨j, hj, hji, e⟩; exact ⟨j, hj, by omega, e⟩
      · rintro ⟨j, hj, hji, e2⟩
        refine ⟨j, hj, ?_, e2⟩
        have : j ≠ i := by rintro rfl; exact e e2.symm
        omega
  by_cases h0 : (i : Int) > 0
  · have hw : IntKind.i64.wrap ((i : Int) - 1) = ((i - 1 : Nat) : Int) := by rw [wrap_sm _ (by omega) (by omega)]; omega
    rw [if_pos h0, hw, getK_lt (by omega), pl_iLess, callK_some]
    by_cases h4 : rl (l[i - 1]'(by omega)) l[i] = true
    · rw [if_pos h4]
      exact hnx _ ⟨run_take hi hr h1 (fun _ => rl_iff.mp h4) h3, hput⟩
    · rw [if_neg h4]
      exact no fun h => h4 (rl_iff.mpr ((run_pre h hi).2.1 (i - 1) (by omega)))
  · rw [if_neg h0]
    exact hnx _ ⟨run_take hi hr h1 (fun _ => by omega) h3, hput⟩
theorem pl_sRun {l : List Record} (hl : l.length ≤ 1000000) : ∃ b, p_spec_l17Run l = some b ∧ (b = true ↔ Run l) := by
  unfold p_spec_l17Run
  rw [grd_pos (by omega)]
  refine forK_ex (fun i v => Run (l.take i)) (fun i hi v hr nx hnx => ?_) (fun v hv => ⟨true, rfl, by rw [List.take_length] at hv; simp [hv]⟩) _ (by simpa using Run.nil)
  have no : (Run l → False) → ∃ r, some false = some r ∧ (r = true ↔ Run l) := fun h => ⟨false, rfl, by simp; exact h⟩
  rw [pl_sRec, callK_some]
  by_cases h1 : okRec l[i] = true
  rotate_left
  · rw [if_neg h1]; exact no fun h => h1 (run_pre h hi).1
  rw [if_pos h1]
  have inner : (∀ hp : 0 < i, RL (l[i - 1]'(by omega)) l[i]) → ∃ r, (forI (i : Int) (fun (j : Nat) (_ : Unit) (nx40 : Unit → Option Bool) => getK l (j : Int) fun x41 => if x41.Seq = l[i].Seq then some false else nx40 ()) () fun (_ : Unit) => nx ()) = some r ∧ (r = true ↔ Run l) := fun hlt => by
    refine forI_ex (fun i' _ => ∀ j (hj : j < i) (_ : j < i'), (l[j]'(by omega)).Seq ≠ l[i].Seq) (fun j hj s hs nx2 hnx2 => ?_) (fun s hs => hnx () (run_take hi hr h1 hlt fun j hj => hs j hj (by omega))) () (fun j hj h => by omega)
    rw [getK_lt (show j < l.length by omega)]
    by_cases e : l[j].Seq = l[i].Seq
    · rw [if_pos e]; exact no fun h => (run_pre h hi).2.2 j (by omega) e
    · rw [if_neg e]
      refine hnx2 () fun j' hj' h' => ?_
      by_cases e2 : j' = j
      · subst e2; exact e
      · exact hs j' hj' (by omega)
  by_cases h0 : (i : Int) > 0
  · have hw : IntKind.i64.wrap ((i : Int) - 1) = ((i - 1 : Nat) : Int) := by rw [wrap_sm _ (by omega) (by omega)]; omega
    rw [if_pos h0, hw, getK_lt (by omega), pl_sLess, callK_some]
    by_cases h4 : rl (l[i - 1]'(by omega)) l[i] = true
    · rw [if_pos h4, grd_pos (by omega)]
      exact inner fun _ => rl_iff.mp h4
    · rw [if_neg h4]
      exact no fun h => h4 (rl_iff.mpr ((run_pre h hi).2.1 (i - 1) (by omega)))
  · rw [if_neg h0, grd_pos (by omega)]
    exact inner fun _ => by omega
/-! ### The order's words -/
theorem pl_into {l : List Record} (r : Record) (hl : l.length ≤ 1000000) : p_spec_l17Into r l = some (into l r) := by
  unfold p_spec_l17Into
  rw [grd_pos (by omega)]
  refine forK_rule (fun i _ => ∀ j, ∀ (hj : j < l.length), j < i → rl l[j] r = true) (fun i hi v hv nx hnx => ?_) (fun v hv => ?_) () (fun j hj h => by omega)
  · rw [pl_sLess, callK_some]
    cases hc : rl l[i] r
    · rw [if_neg (by decide), rec_eq, into_at hi (fun j hj => hv j (by omega) hj) hc]
      by_cases e : l[i] = r
      · rw [if_pos (by simpa using e), if_pos e]
      · rw [if_neg (by simpa using e), if_neg e, cut0, cutE, grd_pos (by omega), grd_pos (appOk_of _ _ (by rw [List.length_take]; omega)), grd_pos (appOk_of _ _ (by rw [List.length_take]; omega)), grd_pos (by omega),
          grd_pos (appOk_of _ _ (by simp only [List.length_append, List.length_take, List.length_drop, List.length_cons, List.length_nil]; omega))]
        simp
    · rw [if_pos rfl]
      refine hnx () fun j hj h => ?_
      by_cases e : j = i
      · subst e; exact hc
      · exact hv j hj (by omega)
  · rw [cut0, cutE, grd_pos (by omega), grd_pos (appOk_of _ _ (by rw [List.length_take]; omega)), grd_pos (appOk_of _ _ (by rw [List.length_take]; omega)), grd_pos (by omega),
      grd_pos (appOk_of _ _ (by simp only [List.length_append, List.length_take, List.length_drop, List.length_cons, List.length_nil]; omega))]
    rw [into_end (fun x hx => by obtain ⟨j, hj, rfl⟩ := List.mem_iff_getElem.mp hx; exact hv j hj hj)]
    simp
theorem pl_sort {l : List Record} (hl : l.length ≤ 1000000) : ∃ r, p_spec_SortRecords l = some r ∧ r.length ≤ l.length := by
  unfold p_spec_SortRecords p_spec_l17Sort
  rw [grd_pos (by omega)]
  obtain ⟨r, e, h⟩ := forK_ex (l := l) (f := fun (i8 : Nat) x11 (v9 : List Record) (nx10 : (List Record) → Option (List Record)) =>
    callK (p_spec_l17Valid x11) fun y12 =>
    if y12 = true then
      callK (p_spec_l17Into x11 v9) fun y14 =>
      nx10 y14
    else
      nx10 v9) (k := fun v9 => some v9) (Q := fun r => r.length ≤ l.length) (fun i v => v.length ≤ i) (fun i hi v hv nx hnx => by
      rw [pl_sRec, callK_some]
      by_cases h : okRec l[i] = true
      · rw [if_pos h, pl_into _ (by omega), callK_some]
        have := into_len_le l[i] v
        exact hnx _ (by omega)
      · rw [if_neg h]; exact hnx _ (by omega)) (fun v hv => ⟨_, rfl, hv⟩) [] (by simp)
  rw [e, callK_some]
  exact ⟨r, rfl, h⟩
theorem text_ok {b : Int} {s : Sl00Src} (l : List ByteArray) (hl : 0 < l.length) (hb : 0 ≤ b) (h : SrcOk (b + 2) s) : ∃ r s', p_spec_l00Src_text s l = some (r, s') ∧ r ∈ l ∧ SrcOk b s' := by
  obtain ⟨r, s1, e1, ⟨b1, b2, b3⟩, o1⟩ := pick_ok (l.length : Int) hb h
  unfold p_spec_l00Src_text
  have hr : r < (l.length : Int) := by
    rcases Nat.lt_or_ge 1 l.length with h | h
    · exact b2 (by omega)
    · have := b3 (by omega); omega
  rw [e1, callK_some, getK_in b1 hr]
  exact ⟨_, _, rfl, List.getElem_mem _, o1⟩
theorem drawRun_ok {n : Int} {s : Sl00Src} (hn : 0 ≤ n ∧ n ≤ 100) (h : SrcOk 1000000 s) : ∃ l s', p_spec_l26DrawRun 1 n s = some (s', l) ∧ (l.length : Int) ≤ 100 ∧ SrcOk 1000 s' := by
  unfold p_spec_l26DrawRun
  rw [grd_pos (by omega)]
  obtain ⟨r, e, h1, h2⟩ := forI_ex (n := n) (Q := fun (r : Sl00Src × List Record) => (r.2.length : Int) ≤ 100 ∧ SrcOk 1000 r.1)
    (f := fun (i11 : Nat) ((v12, v13) : (Sl00Src × (List Record))) (nx14 : (Sl00Src × (List Record)) → Option (Sl00Src × (List Record))) =>
    callK (p_spec_l00Src_text v12 ([(⟨#[97]⟩ : ByteArray), (⟨#[98]⟩ : ByteArray), (⟨#[99]⟩ : ByteArray), (⟨#[99, 99]⟩ : ByteArray), (⟨#[100]⟩ : ByteArray), (⟨#[101]⟩ : ByteArray), (⟨#[102]⟩ : ByteArray)] : List ByteArray)) fun y15 =>
    callK (p_spec_l00Src_pick 8 y15.2) fun y16 =>
    if y16.1 = 0 then
      grd (appOk (v13.length + 1) 64 = true) <|
      nx14 (y16.2, (v13 ++ ([(⟨y15.1, (IntKind.i64.wrap (1 + (i11 : Int))), 2, (⟨#[]⟩ : ByteArray), (⟨#[]⟩ : ByteArray)⟩ : Record)] : List Record)))
    else
      if y16.1 = 1 then
        callK (p_spec_l00Src_text y16.2 ([(⟨#[97]⟩ : ByteArray), (⟨#[122]⟩ : ByteArray)] : List ByteArray)) fun y19 =>
        grd (((ByteArray.size y15.1 + ByteArray.size y19.1 : Nat) : Int) ≤ 9223372036854775807) <|
        grd (appOk (v13.length + 1) 64 = true) <|
        nx14 (y19.2, (v13 ++ ([(⟨y15.1, (IntKind.i64.wrap (1 + (i11 : Int))), 3, (⟨#[]⟩ : ByteArray), (y15.1 ++ y19.1)⟩ : Record)] : List Record)))
      else
        callK (p_spec_l00Src_text y16.2 ([(⟨#[]⟩ : ByteArray), (⟨#[49]⟩ : ByteArray), (⟨#[118, 97, 108, 117, 101]⟩ : ByteArray)] : List ByteArray)) fun y20 =>
        grd (appOk (v13.length + 1) 64 = true) <|
        nx14 (y20.2, (v13 ++ ([(⟨y15.1, (IntKind.i64.wrap (1 + (i11 : Int))), 1, y20.1, (⟨#[]⟩ : ByteArray)⟩ : Record)] : List Record))))
    (k := fun ((v12, v13) : (Sl00Src × (List Record))) => callK (p_spec_SortRecords v13) fun y21 => some (v12, y21))
    (fun i s => s.2.length ≤ i ∧ SrcOk (1000000 - 6 * (i : Int)) s.1)
    (fun i hi s hs nx hnx => by
      obtain ⟨v12, v13⟩ := s
      obtain ⟨g1, g2⟩ := hs
      dsimp only at g1 g2 ⊢
      obtain ⟨k, s1, e1, m1, o1⟩ := text_ok (b := 1000000 - 6 * (i : Int) - 2) (s := v12) ([(⟨#[97]⟩ : ByteArray), (⟨#[98]⟩ : ByteArray), (⟨#[99]⟩ : ByteArray), (⟨#[99, 99]⟩ : ByteArray), (⟨#[100]⟩ : ByteArray), (⟨#[101]⟩ : ByteArray), (⟨#[102]⟩ : ByteArray)] : List ByteArray) (by simp) (by omega) (g2.le (by omega))
      rw [e1, callK_some]
      dsimp only
      obtain ⟨y, s2, e2, _, o2⟩ := pick_ok (b := 1000000 - 6 * (i : Int) - 4) (s := s1) 8 (by omega) (o1.le (by omega))
      rw [e2, callK_some]
      dsimp only
      have hk : k.size ≤ 10 := by
        simp only [List.mem_cons, List.not_mem_nil, or_false] at m1
        rcases m1 with rfl | rfl | rfl | rfl | rfl | rfl | rfl <;> decide
      by_cases c0 : y = 0
      · rw [if_pos c0, grd_pos (appOk_of _ _ (by omega))]
        exact hnx _ ⟨by simp; omega, o2.le (by omega)⟩
      · rw [if_neg c0]
        by_cases c1 : y = 1
        · rw [if_pos c1]
          obtain ⟨z, s3, e3, m3, o3⟩ := text_ok (b := 1000000 - 6 * (i : Int) - 6) (s := s2) ([(⟨#[97]⟩ : ByteArray), (⟨#[122]⟩ : ByteArray)] : List ByteArray) (by simp) (by omega) (o2.le (by omega))
          have hz : z.size ≤ 10 := by
            simp only [List.mem_cons, List.not_mem_nil, or_false] at m3
            rcases m3 with rfl | rfl <;> decide
          rw [e3, callK_some]
          dsimp only
          rw [grd_pos (by omega), grd_pos (appOk_of _ _ (by omega))]
          exact hnx _ ⟨by simp; omega, o3.le (by omega)⟩
        · rw [if_neg c1]
          obtain ⟨z, s3, e3, m3, o3⟩ := text_ok (b := 1000000 - 6 * (i : Int) - 6) (s := s2) ([(⟨#[]⟩ : ByteArray), (⟨#[49]⟩ : ByteArray), (⟨#[118, 97, 108, 117, 101]⟩ : ByteArray)] : List ByteArray) (by simp) (by omega) (o2.le (by omega))
          rw [e3, callK_some]
          dsimp only
          rw [grd_pos (appOk_of _ _ (by omega))]
          exact hnx _ ⟨by simp; omega, o3.le (by omega)⟩)
    (fun s hs => by
      obtain ⟨v12, v13⟩ := s
      obtain ⟨g1, g2⟩ := hs
      dsimp only at g1 g2 ⊢
      obtain ⟨r, e, hr⟩ := pl_sort (l := v13) (by omega)
      rw [e, callK_some]
      exact ⟨_, rfl, by dsimp only; omega, g2.le (by omega)⟩) (s, []) ⟨by simp, h.le (by omega)⟩
  exact ⟨r.2, r.1, e, h1, h2⟩
theorem draw_ok {code : List Int} (hk : ∀ x ∈ code, 0 ≤ x ∧ x ≤ 255) (hl : code.length ≤ 1048576) : ∃ l, p_spec_DrawSplitRun code = some l ∧ l.length ≤ 100 := by
  unfold p_spec_DrawSplitRun
  obtain ⟨s, e, o⟩ := from_ok hk hl
  rw [e, callK_some]
  obtain ⟨b, s1, e1, o1⟩ := one_ok (b := 2000000) 4 (by omega) (o.le (by omega))
  rw [e1, callK_some]
  dsimp only
  cases b
  · rw [if_neg (by decide)]
    unfold p_spec_l26DrawLong
    obtain ⟨n, s2, e2, m2, o2⟩ := among_ok (b := 1000000) (s := s1) ([0, 3, 16, 17, 20, 40, 61, 70] : List Int) (by simp) (by omega) (o1.le (by omega))
    have hn : 0 ≤ n ∧ n ≤ 70 := by
      simp only [List.mem_cons, List.not_mem_nil, or_false] at m2
      omega
    rw [e2, callK_some]
    dsimp only
    rw [grd_pos (by omega)]
    obtain ⟨r, e, hr⟩ := forI_ex (n := n) (Q := fun (r : List Record × Sl00Src) => r.1.length ≤ 100)
      (f := fun (i5 : Nat) (v6 : List Record) (nx7 : (List Record) → Option (List Record × Sl00Src)) =>
    grd (appOk (v6.length + 1) 64 = true) <|
    nx7 (v6 ++ ([(⟨(bytesOf (([(IntKind.u8.wrap (IntKind.i64.wrap (97 + (Int.tmod (i5 : Int) 26)))), (IntKind.u8.wrap (IntKind.i64.wrap (97 + (IntKind.i64.wrap (Int.tdiv (i5 : Int) 26)))))] : List Int).map rU)), (IntKind.i64.wrap (1 + (i5 : Int))), 1, (⟨#[118]⟩ : ByteArray), (⟨#[]⟩ : ByteArray)⟩ : Record)] : List Record)))
      (k := fun (v6 : List Record) =>
    callK (p_spec_l00Src_one 3 s2) fun y8 =>
    if y8.1 = true then
      callK (p_spec_l00Src_text y8.2 ([(⟨#[100]⟩ : ByteArray), (⟨#[109]⟩ : ByteArray), (⟨#[122, 122]⟩ : ByteArray)] : List ByteArray)) fun y10 =>
      grd (appOk (v6.length + 1) 64 = true) <|
      callK (p_spec_SortRecords (v6 ++ ([(⟨(⟨#[99]⟩ : ByteArray), 90, 3, (⟨#[]⟩ : ByteArray), y10.1⟩ : Record)] : List Record))) fun y11 =>
      some (y11, y10.2)
    else
      callK (p_spec_SortRecords v6) fun y12 =>
      some (y12, y8.2))
      (fun i v => v.length ≤ i) (fun i hi v hv nx hnx => by
        rw [grd_pos (appOk_of _ _ (by omega))]
        exact hnx _ (by simp; omega)) (fun v hv => by
        obtain ⟨b, s3, e3, o3⟩ := one_ok (b := 2000) 3 (by omega) (o2.le (by omega))
        rw [e3, callK_some]
        dsimp only
        cases b
        · rw [if_neg (by decide)]
          obtain ⟨r, e, hr⟩ := pl_sort (l := v) (by omega)
          rw [e, callK_some]
          exact ⟨_, rfl, by dsimp only; omega⟩
        · rw [if_pos rfl]
          obtain ⟨z, s4, e4, m4, o4⟩ := text_ok (b := 1000) (s := s3) ([(⟨#[100]⟩ : ByteArray), (⟨#[109]⟩ : ByteArray), (⟨#[122, 122]⟩ : ByteArray)] : List ByteArray) (by simp) (by omega) (o3.le (by omega))
          rw [e4, callK_some]
          dsimp only
          rw [grd_pos (appOk_of _ _ (by omega))]
          obtain ⟨r, e, hr⟩ := pl_sort (l := v ++ [(⟨(⟨#[99]⟩ : ByteArray), 90, 3, (⟨#[]⟩ : ByteArray), z⟩ : Record)]) (by simp; omega)
          rw [e, callK_some]
          rw [List.length_append, List.length_singleton] at hr
          exact ⟨_, rfl, by dsimp only; omega⟩) [] (by simp)
    rw [e, callK_some]
    exact ⟨_, rfl, hr⟩
  · rw [if_pos rfl]
    unfold p_spec_l26Spoiled
    obtain ⟨n, s2, e2, ⟨b1, b2, _⟩, o2⟩ := pick_ok (b := 1000000) (s := s1) 9 (by omega) (o1.le (by omega))
    have b2 := b2 (by omega)
    rw [e2, callK_some]
    dsimp only
    obtain ⟨l, s3, e3, h3, o3⟩ := drawRun_ok (n := n) (s := s2) (by omega) o2
    rw [e3, callK_some]
    dsimp only
    by_cases hc : (l.length : Int) > 1
    · rw [if_pos hc]
      obtain ⟨b, s4, e4, o4⟩ := one_ok (b := 100) 8 (by omega) (o3.le (by omega))
      rw [e4, callK_some]
      dsimp only
      cases b
      · rw [if_neg (by decide), callK_some]
        exact ⟨_, rfl, by dsimp only; omega⟩
      · rw [if_pos rfl, getK_in (by omega) (by omega), callK_some]
        exact ⟨_, rfl, by rw [List.length_set]; omega⟩
    · rw [if_neg hc, callK_some]
      exact ⟨_, rfl, by dsimp only; omega⟩
/-! ### The chunks -/
def hiK (r : Record) : ByteArray := if r.Kind = 3 then r.End else r.Key ++ ⟨#[0]⟩
theorem okRec_size {r : Record} (h : okRec r = true) : (r.Key.size : Int) ≤ 8 := (inR_iff.mp (okRec_key h)).2
theorem pl_hi {r : Record} (h : okRec r = true) : p_spec_l26High r = some (hiK r) := by
  unfold p_spec_l26High hiK
  have := okRec_size h
  split
  · rfl
  · rw [grd_pos (by have : (⟨#[0]⟩ : ByteArray).size = 1 := rfl; omega)]
theorem pl_up {r : Record} (h : okRec r = true) : p_impl_Record_upper r = some (hiK r) := by
  unfold p_impl_Record_upper p_impl_isRange hiK
  have := okRec_size h
  rw [callK_some]
  by_cases c : r.Kind = 3
  · rw [if_pos (by simpa using c), if_pos c]
  · rw [if_neg (by simpa using c), if_neg c, grd_pos (by have : (⟨#[0]⟩ : ByteArray).size = 1 := rfl; omega)]
theorem bl_app : ∀ (x y : List UInt8), y ≠ [] → Op.bytesLess x (x ++ y) = true
  | [], [], h => absurd rfl h
  | [], _ :: _, _ => rfl
  | a :: x, y, h => by simp [Op.bytesLess, bl_app x y h]
theorem kl_hi {r : Record} (h : okRec r = true) : kl r.Key (hiK r) := by
  unfold hiK
  by_cases c : r.Kind = 3
  · rw [if_pos c]
    unfold okRec at h
    simp only [Bool.and_eq_true] at h
    have h2 := h.2.2
    rw [if_neg (by omega), if_neg (by omega), if_pos c] at h2
    simp only [Bool.and_eq_true] at h2
    exact h2.2.2
  · rw [if_neg c]
    unfold kl
    rw [toList_data, toList_data, ByteArray.data_append, Array.toList_append]
    exact bl_app _ _ (by simp)
theorem maxS_le (a b : ByteArray) : (if (Op.bytesLess b.toList a.toList || b.toList == a.toList) = true then a else b) = maxS a b := by
  unfold maxS
  have := less_not b a
  cases h : (Op.bytesLess b.toList a.toList || b.toList == a.toList)
  · rw [h] at this
    rw [← this]; rfl
  · rw [h] at this
    rw [← this]; rfl
theorem kl_max {k a : ByteArray} (b : ByteArray) (h : kl k a) : kl k (maxS a b) := by
  unfold maxS
  split
  · exact h
  · rename_i c
    refine kl_tr _ _ _ h ?_
    unfold kl
    simpa using c
theorem kl_fold {k : ByteArray} : ∀ (l : List Record) (a : ByteArray), kl k a → kl k (l.foldl (fun u r => maxS u (hiK r)) a)
  | [], a, h => h
  | r :: l, a, h => kl_fold l _ (kl_max _ h)
def upK (l : List Record) : ByteArray := l.foldl (fun u r => maxS u (hiK r)) ⟨#[]⟩
theorem max_0 {k b : ByteArray} (h : kl k b) : maxS ⟨#[]⟩ b = b := by
  unfold maxS
  have : kl ⟨#[]⟩ b := kl_pos (by rintro rfl; exact kl_empty _ h)
  unfold kl at this
  rw [this]; rfl
theorem upK_snoc (l : List Record) (r : Record) : upK (l ++ [r]) = maxS (upK l) (hiK r) := by unfold upK; rw [List.foldl_append]; rfl
def hdK : List Record → ByteArray
  | [] => ⟨#[]⟩
  | r :: _ => r.Key
theorem kl_up {l : List Record} (h : Run l) (hn : l ≠ []) : kl (hdK l) (upK l) := by
  cases l with
  | nil => exact absurd rfl hn
  | cons r l =>
    have := kl_hi (h.ok r (by simp))
    show kl r.Key (l.foldl _ (maxS ⟨#[]⟩ (hiK r)))
    rw [max_0 this]
    exact kl_fold l _ this
theorem pl_range {l : List Record} (h : Run l) (hl : l.length ≤ 1000000) (hn : l ≠ []) : p_spec_KeyRange l = some (hdK l, upK l) := by
  unfold p_spec_KeyRange
  have h0 : 0 < l.length := by cases l with | nil => exact absurd rfl hn | cons => simp
  rw [if_neg (by omega)]
  obtain ⟨b, e, hb⟩ := pl_sRun hl
  unfold p_spec_ValidRun
  rw [e, hb.mpr h]
  simp only [callK_some, if_true]
  unfold p_spec_l26KeyRange
  rw [grd_pos (by omega)]
  rw [show forK l _ _ _ = some (hdK l, upK l) from forK_rule (fun i v => v = upK (l.take i)) (fun i hi v hv nx hnx => by
      subst hv
      rw [pl_hi (h.ok _ (List.getElem_mem hi)), callK_some]
      have e : upK (l.take (i + 1)) = maxS (upK (l.take i)) (hiK l[i]) := by rw [List.take_succ_eq_append_getElem hi, upK_snoc]
      rw [← maxS_le] at e
      split
      · rename_i c; rw [if_pos c] at e; exact hnx _ e.symm
      · rename_i c; rw [if_neg c] at e; exact hnx _ e.symm) (fun v hv => by
      subst hv
      rw [List.take_length, getK_in (by omega) (by omega)]
      cases l with
      | nil => exact absurd rfl hn
      | cons r l => rfl) _ (by simp [upK])]
  rfl
abbrev St := ByteArray × List (List Record) × List Record
open Classical in
noncomputable def stp (s : St) (x : Record) : St := if 16 ≤ s.2.2.length ∧ ¬ kl x.Key s.1 then (maxS ⟨#[]⟩ (hiK x), s.2.1 ++ [s.2.2], [x]) else (maxS s.1 (hiK x), s.2.1, s.2.2 ++ [x])
def st0 : St := (⟨#[]⟩, [], [])
def big (s : St) : Prop := (∃ c ∈ s.2.1, 60 < c.length) ∨ 60 < s.2.2.length
theorem big_stp {s : St} {x : Record} (h : big s) : big (stp s x) := by
  unfold stp
  split
  · refine .inl ?_
    rcases h with ⟨c, h1, h2⟩ | h
    · exact ⟨c, by simp [h1], h2⟩
    · exact ⟨s.2.2, by simp, h⟩
  · rcases h with h | h
    · exact .inl h
    · exact .inr (by simp; omega)
theorem big_fold : ∀ (l : List Record) (s : St), big s → big (l.foldl stp s)
  | [], s, h => h
  | x :: l, s, h => big_fold l _ (big_stp h)
theorem le_kl (u k : ByteArray) : ((Op.bytesLess u.toList k.toList || u.toList == k.toList) = true) ↔ ¬ kl k u := by
  have := less_not u k
  unfold kl
  rw [← this]
  generalize (Op.bytesLess u.toList k.toList || u.toList == k.toList) = b
  cases b <;> simp
def outK (s : St) : List (List Record) := if 0 < s.2.2.length then s.2.1 ++ [s.2.2] else s.2.1
theorem stp_len (s : St) (x : Record) : (stp s x).2.1.length + 1 ≤ s.2.1.length + 2 ∧ (stp s x).2.2.length ≤ s.2.2.length + 1 := by
  unfold stp
  split <;> simp
theorem pl_big60 (l : List (List Record)) (hl : l.length ≤ 1000000) : p_slices_ContainsFunc_impl_splitRun_c1 l = some (l.any fun c => decide ((c.length : Int) > 60)) := by
  unfold p_slices_ContainsFunc_impl_splitRun_c1 p_slices_IndexFunc_impl_splitRun_c1
  rw [grd_pos (by omega), forK_idx (f := fun x => p_impl_splitRun_c1 x) (p := fun c => decide ((c.length : Int) > 60)) (fun x => rfl)]
  simp only [callK_some, idxP_any]
theorem any_big {s : St} : (outK s).any (fun c => decide ((c.length : Int) > 60)) = true ↔ big s := by
  unfold outK big
  rw [List.any_eq_true]
  simp only [decide_eq_true_eq]
  split
  · constructor
    · rintro ⟨c, h1, h2⟩
      rcases List.mem_append.mp h1 with h1 | h1
      · exact .inl ⟨c, h1, by omega⟩
      · rw [List.mem_singleton] at h1; subst h1; exact .inr (by omega)
    · rintro (⟨c, h1, h2⟩ | h)
      · exact ⟨c, by simp [h1], by omega⟩
      · exact ⟨s.2.2, by simp, by omega⟩
  · constructor
    · rintro ⟨c, h1, h2⟩; exact .inl ⟨c, h1, by omega⟩
    · rintro (⟨c, h1, h2⟩ | h)
      · exact ⟨c, h1, by omega⟩
      · omega
noncomputable def spl (l : List Record) : List (List Record) × Int := @ite _ (big (l.foldl stp st0)) (Classical.propDecidable _) ([], 4) (outK (l.foldl stp st0), 0)
theorem fold_take {l : List Record} {i : Nat} (hi : i < l.length) : (l.take (i + 1)).foldl stp st0 = stp ((l.take i).foldl stp st0) l[i] := by rw [List.take_succ_eq_append_getElem hi, List.foldl_append]; rfl
theorem pl_iSplit {l : List Record} (h : Run l) (hl : l.length ≤ 1000) : p_impl_splitRun l = some (spl l) := by
  unfold p_impl_splitRun
  rw [grd_pos (by omega)]
  refine forK_rule (fun i v => v = (l.take i).foldl stp st0 ∧ v.2.1.length ≤ i ∧ v.2.2.length ≤ i) (fun i hi v hv nx hnx => ?_) (fun v hv => ?_) _ ⟨by rfl, by simp, by simp⟩
  · obtain ⟨hv, l1, l2⟩ := hv
    have hs := stp_len v l[i]
    have e := fold_take hi
    rw [← hv] at e
    have new : ∀ v', v' = stp v l[i] → nx v' = some (spl l) := fun v' h' => hnx v' ⟨by rw [h', e], by rw [h']; omega, by rw [h']; omega⟩
    clear hv e
    obtain ⟨u, cs, c⟩ := v
    dsimp only at l1 l2 ⊢
    rw [pl_up (h.ok _ (List.getElem_mem hi)), callK_some]
    by_cases h1 : (c.length : Int) ≥ 16
    · rw [if_pos h1]
      by_cases h2 : kl l[i].Key u
      · rw [if_neg (fun h => (le_kl _ _).mp h h2), grd_pos (appOk_of _ _ (by omega))]
        exact new _ (by unfold stp; rw [if_neg (fun h => h.2 h2)])
      · rw [if_pos ((le_kl _ _).mpr h2), grd_pos (appOk_of _ _ (by omega))]
        exact new _ (by unfold stp; rw [if_pos ⟨by dsimp only; omega, h2⟩])
    · rw [if_neg h1, grd_pos (appOk_of _ _ (by omega))]
      exact new _ (by unfold stp; rw [if_neg (fun h => by have := h.1; dsimp only at this; omega)])
  · obtain ⟨hv, l1, l2⟩ := hv
    rw [List.take_length] at hv
    unfold spl
    rw [← hv]
    have hb := any_big (s := v)
    unfold outK at hb ⊢
    obtain ⟨u, cs, c⟩ := v
    dsimp only at l1 l2 hb ⊢
    by_cases h0 : 0 < c.length
    · rw [if_pos h0] at hb ⊢
      rw [if_pos (by omega), grd_pos (appOk_of _ _ (by omega)), pl_big60 _ (by simp; omega), callK_some]
      by_cases hc : big (u, cs, c)
      · rw [if_pos (hb.mpr hc), if_pos hc]
      · rw [if_neg (fun h => hc (hb.mp h)), if_neg hc]
    · rw [if_neg h0] at hb ⊢
      rw [if_neg (by omega), pl_big60 _ (by omega), callK_some]
      by_cases hc : big (u, cs, c)
      · rw [if_pos (hb.mpr hc), if_pos hc]
      · rw [if_neg (fun h => hc (hb.mp h)), if_neg hc]
theorem pl_sSplit {l : List Record} (h : Run l) (hl : l.length ≤ 1000) : p_spec_l26Split l = some (spl l) := by
  unfold p_spec_l26Split
  rw [grd_pos (by omega)]
  refine forK_rule (fun i v => v = (l.take i).foldl stp st0 ∧ v.2.1.length ≤ i ∧ v.2.2.length ≤ i ∧ ¬ big v) (fun i hi v hv nx hnx => ?_) (fun v hv => ?_) _ ⟨by rfl, by simp, by simp, by simp [big]⟩
  · obtain ⟨hv, l1, l2, nb⟩ := hv
    have hs := stp_len v l[i]
    have e := fold_take hi
    rw [← hv] at e
    have new : ∀ v', v' = stp v l[i] → ¬ big v' → nx v' = some (spl l) := fun v' h' h2 => hnx v' ⟨by rw [h', e], by rw [h']; omega, by rw [h']; omega, h2⟩
    have over : big (stp v l[i]) → some (([] : List (List Record)), (4 : Int)) = some (spl l) := fun hb => by
      unfold spl
      have : big (l.foldl stp st0) := by
        rw [← List.take_append_drop (i + 1) l, List.foldl_append]
        exact big_fold _ _ (by rw [e]; exact hb)
      rw [if_pos this]
    clear hv e
    obtain ⟨u, cs, c⟩ := v
    dsimp only at l1 l2 ⊢
    have nb1 : ¬ ∃ x ∈ cs, 60 < x.length := fun h => nb (.inl h)
    have nb2 : ¬ 60 < c.length := fun h => nb (.inr h)
    rw [pl_hi (h.ok _ (List.getElem_mem hi))]
    simp only [callK_some]
    have add : stp (u, cs, c) l[i] = (maxS u (hiK l[i]), cs, c ++ [l[i]]) → ∃ r, r = some (spl l) ∧ r = (if ((Op.bytesLess (hiK l[i]).toList u.toList) || ((hiK l[i]).toList == u.toList)) = true then
          if ((c ++ ([l[i]] : List Record)).length : Int) > 60 then
            some (([] : List (List Record)), 4)
          else
            nx (u, cs, (c ++ ([l[i]] : List Record)))
        else
          if ((c ++ ([l[i]] : List Record)).length : Int) > 60 then
            some (([] : List (List Record)), 4)
          else
            nx (hiK l[i], cs, (c ++ ([l[i]] : List Record)))) := fun e => by
      refine ⟨_, ?_, rfl⟩
      rw [← maxS_le] at e
      by_cases hc : ((c ++ ([l[i]] : List Record)).length : Int) > 60
      · rw [if_pos hc, if_pos hc]
        rw [ite_self]
        refine over ?_
        rw [e]
        exact .inr (by dsimp only; omega)
      · rw [if_neg hc, if_neg hc]
        have nbn : ∀ u', ¬ big (u', cs, c ++ [l[i]]) := fun u' h => by
          rcases h with h | h
          · exact nb1 h
          · dsimp only at h; omega
        split
        · rename_i c1; rw [if_pos c1] at e; exact new _ e.symm (nbn _)
        · rename_i c1; rw [if_neg c1] at e; exact new _ e.symm (nbn _)
    by_cases h1 : (c.length : Int) ≥ 16
    · rw [if_pos h1]
      by_cases h2 : kl l[i].Key u
      · rw [if_neg (fun h => (le_kl _ _).mp h h2), grd_pos (appOk_of _ _ (by omega))]
        obtain ⟨r, e1, e2⟩ := add (by unfold stp; rw [if_neg (fun h => h.2 h2)])
        rw [← e2, e1]
      · rw [if_pos ((le_kl _ _).mpr h2), grd_pos (appOk_of _ _ (by omega))]
        have e : stp (u, cs, c) l[i] = (maxS ⟨#[]⟩ (hiK l[i]), cs ++ [c], [l[i]]) := by unfold stp; rw [if_pos ⟨by dsimp only; omega, h2⟩]
        rw [← maxS_le] at e
        have nbn : ∀ u', ¬ big (u', cs ++ [c], [l[i]]) := fun u' h => by
          rcases h with ⟨x, h, h'⟩ | h
          · dsimp only at h
            rcases List.mem_append.mp h with h | h
            · exact nb1 ⟨x, h, h'⟩
            · rw [List.mem_singleton] at h; subst h; exact nb2 h'
          · simp at h
        split
        · rename_i c1; rw [if_pos c1] at e; exact new _ e.symm (nbn _)
        · rename_i c1; rw [if_neg c1] at e; exact new _ e.symm (nbn _)
    · rw [if_neg h1, grd_pos (appOk_of _ _ (by omega))]
      obtain ⟨r, e1, e2⟩ := add (by unfold stp; rw [if_neg (fun h => by have := h.1; dsimp only at this; omega)])
      rw [← e2, e1]
  · obtain ⟨hv, l1, l2, nb⟩ := hv
    rw [List.take_length] at hv
    unfold spl
    rw [← hv, if_neg nb]
    unfold outK
    obtain ⟨u, cs, c⟩ := v
    dsimp only at l1 l2 ⊢
    by_cases h0 : 0 < c.length
    · rw [if_pos h0, if_pos (by omega), grd_pos (appOk_of _ _ (by omega))]
    · rw [if_neg h0, if_neg (by omega)]
def GC : ByteArray → List (List Record) → Prop
  | _, [] => True
  | u, c :: cs => c ≠ [] ∧ ¬ kl (hdK c) u ∧ GC (upK c) cs
def endU : ByteArray → List (List Record) → ByteArray
  | u, [] => u
  | _, c :: cs => endU (upK c) cs
theorem gc_snoc {c : List Record} (hc : c ≠ []) : ∀ {cs : List (List Record)} {u : ByteArray}, GC u cs → ¬ kl (hdK c) (endU u cs) → GC u (cs ++ [c])
  | [], u, _, h => ⟨hc, h, trivial⟩
  | d :: cs, u, h, h2 => ⟨h.1, h.2.1, gc_snoc hc h.2.2 h2⟩
theorem endU_snoc (c : List Record) : ∀ (cs : List (List Record)) (u : ByteArray), endU u (cs ++ [c]) = upK c
  | [], u => rfl
  | d :: cs, u => endU_snoc c cs _
theorem chunks {l : List Record} (h : Run l) : GC ⟨#[]⟩ (outK (l.foldl stp st0)) ∧ (outK (l.foldl stp st0)).flatten = l := by
  have inv : ∀ i, i ≤ l.length → ∀ s, s = (l.take i).foldl stp st0 → s.1 = upK s.2.2 ∧ GC ⟨#[]⟩ s.2.1 ∧ (s.2.2 ≠ [] → ¬ kl (hdK s.2.2) (endU ⟨#[]⟩ s.2.1)) ∧ (s.2.2 = [] → s.2.1 = []) ∧ s.2.1.flatten ++ s.2.2 = l.take i := by
    intro i
    induction i with
    | zero => rintro _ s rfl; exact ⟨rfl, trivial, fun h => absurd rfl h, fun _ => rfl, rfl⟩
    | succ i ih =>
      intro hi s hs
      rw [fold_take (by omega)] at hs
      obtain ⟨g1, g2, g3, g4, g5⟩ := ih (by omega) _ rfl
      generalize (l.take i).foldl stp st0 = p at *
      rw [List.take_succ_eq_append_getElem (by omega), ← g5]
      generalize l[i] = x at *
      obtain ⟨u, cs, c⟩ := p
      dsimp only at g1 g2 g3 g4
      subst hs
      unfold stp
      dsimp only
      split
      · rename_i hc
        have hcn : c ≠ [] := by rintro rfl; simp at hc
        refine ⟨rfl, gc_snoc hcn g2 (g3 hcn), fun _ => ?_, fun h => by simp at h, by simp⟩
        dsimp only
        rw [endU_snoc, ← g1]
        exact hc.2
      · refine ⟨?_, g2, fun _ => ?_, fun h => by simp at h, by simp⟩
        · dsimp only; rw [upK_snoc, g1]
        · dsimp only
          by_cases hcn : c = []
          · rw [g4 hcn]; exact kl_empty _
          · have := g3 hcn
            cases c with
            | nil => exact absurd rfl hcn
            | cons y c => exact this
  obtain ⟨g1, g2, g3, g4, g5⟩ := inv l.length (Nat.le_refl _) _ rfl
  rw [List.take_length] at *
  generalize l.foldl stp st0 = p at *
  unfold outK
  split
  · rename_i hc
    have hcn : p.2.2 ≠ [] := by intro h; rw [h] at hc; simp at hc
    exact ⟨gc_snoc hcn g2 (g3 hcn), by rw [← g5]; simp⟩
  · rename_i hc
    have hcn : p.2.2 = [] := List.length_eq_zero_iff.mp (by omega)
    exact ⟨g2, by rw [← g5, hcn]; simp⟩
theorem pl_law (code : List Int) (hk : okL u8r code) : p_laws_FnSplit code = some true := by
  unfold p_laws_FnSplit
  rw [pl_big, callK_some]
  by_cases hb : (code.length : Int) > 1048576
  · rw [if_pos (by simpa using hb)]
  rw [if_neg (by simpa using hb)]
  obtain ⟨l, e, hl⟩ := draw_ok (code := code) hk.2 (by omega)
  rw [e, callK_some]
  obtain ⟨b1, e1, r1⟩ := pl_iRun (l := l) (by omega)
  obtain ⟨b2, e2, r2⟩ := pl_sRun (l := l) (by omega)
  unfold p_impl_SplitRun p_spec_SplitRun p_spec_ValidRun
  rw [e1, e2]
  simp only [callK_some]
  by_cases h : Run l
  rotate_left
  · rw [if_neg (fun hh => h (r1.mp hh)), if_neg (fun hh => h (r2.mp hh)), callK_some, callK_some]
    rfl
  rw [if_pos (r1.mpr h), if_pos (r2.mpr h), pl_iSplit h (by omega), pl_sSplit h (by omega)]
  simp only [callK_some]
  unfold spl
  by_cases hbig : big (l.foldl stp st0)
  · rw [if_pos hbig]; rfl
  rw [if_neg hbig]
  obtain ⟨hg, hf⟩ := chunks h
  generalize outK (l.foldl stp st0) = cs at hg hf
  dsimp only
  have hlen : cs.length ≤ l.length := by
    have : ∀ (cs : List (List Record)) (u : ByteArray), GC u cs → cs.length ≤ cs.flatten.length := by
      intro cs
      induction cs with
      | nil => intro u _; simp
      | cons c cs ih =>
        intro u h
        have := ih _ h.2.2
        have hc : 0 < c.length := List.length_pos_iff.mpr h.1
        simp only [List.length_cons, List.flatten_cons, List.length_append]
        omega
    have := this cs _ hg
    rwa [hf] at this
  rw [if_neg (by simp), if_neg (by simp), grd_pos (by omega)]
  refine forK_rule (fun i (v : Int × ByteArray) => v.1 = ((cs.take i).flatten.length : Int) ∧ GC v.2 (cs.drop i)) (fun i hi v hv nx hnx => ?_) (fun v hv => ?_) _ ⟨by simp, hg⟩
  · obtain ⟨v1, v2⟩ := v
    obtain ⟨g1, g2⟩ := hv
    rw [List.drop_eq_getElem_cons hi] at g2
    dsimp only at g1 g2 ⊢
    obtain ⟨h1, h2, h3⟩ := g2
    have hsp : cs.flatten = (cs.take i).flatten ++ (cs[i] ++ (cs.drop (i + 1)).flatten) := by
      rw [← List.flatten_cons, ← List.drop_eq_getElem_cons hi, ← List.flatten_append, List.take_append_drop]
    rw [hf] at hsp
    have hnext : ((cs.take (i + 1)).flatten.length : Int) = (cs.take i).flatten.length + cs[i].length := by
      rw [List.take_succ_eq_append_getElem hi, List.flatten_append, List.length_append, List.flatten_cons, List.flatten_nil, List.append_nil]; omega
    generalize cs[i] = c at *
    generalize (cs.take i).flatten = pre at *
    generalize (cs.drop (i + 1)).flatten = post at *
    have hrun : Run c := h.sub (by rw [hsp]; exact (List.sublist_append_left c post).trans (List.sublist_append_right pre _))
    have hll : l.length = pre.length + (c.length + post.length) := by rw [hsp]; simp
    have hc0 : 0 < c.length := List.length_pos_iff.mpr h1
    rw [pl_range hrun (by omega) h1, callK_some]
    dsimp only
    unfold kl at h2
    rw [if_neg (by omega), if_neg h2, if_pos (show Op.bytesLess (hdK c).toList (upK c).toList = true from kl_up hrun h1), grd_pos (by omega)]
    refine forI_rule (fun j (n : Int) => n = ((pre.length + j : Nat) : Int)) (fun j hj n hn nx2 hnx2 => ?_) (fun n hn => ?_) _ (by rw [g1]; rfl)
    · subst hn
      rw [if_neg (by omega), getK_lt (by omega), getK_lt (by omega), rec_eq, if_pos, wrap_sm _ (by omega) (by omega)]
      · exact hnx2 _ (by omega)
      · simp only [decide_eq_true_eq]
        subst hsp
        rw [List.getElem_append_right (by omega), List.getElem_append_left (by omega)]
        congr 1; omega
    · subst hn
      exact hnx _ ⟨by dsimp only; rw [hnext]; omega, h3⟩
  · obtain ⟨v1, v2⟩ := v
    obtain ⟨g1, _⟩ := hv
    dsimp only at g1 ⊢
    rw [g1, List.take_length, hf]; simp
theorem f_law (code : List Int) (hk : okL u8r code) : callL E 4 [.d (.arr (code.map rU))] [] = some (BO true, []) := L_laws_FnSplit code (pl_law code hk)

end Go.Proofs.Ytphcdalhdfbamaa.T02

/- FnVisible: what its functions come to, and the row; conditions: none. -/
import Derived.Test.YtjphojijobhdiaaT01
import Derived.Test.YtjphojijobhdiaaEz
import Derived.Test.YtjphojijobhdiaaRows
import Derived.WalkKit
import Derived.ProofKit
import Derived.OpenShut
import Derived.ShutString
import Derived.ChangeOld
import Derived.Below
import Derived.SizedLaws
namespace Go.Proofs.Ytjphojijobhdiaa.T01
open Go.Proofs.YtjphojijobhdiaaE
set_option maxRecDepth 100000
set_option linter.unusedVariables false
set_option linter.unusedSimpArgs false

noncomputable def p_spec_l00In (a_0 : Int) (a_1 : Int) (a_2 : Int) : Option Bool :=
  if a_0 ≥ a_1 then
    some (decide (a_0 ≤ a_2))
  else
    some false

set_option maxHeartbeats 4000000 in
theorem L_spec_l00In (a_0 : Int) (a_1 : Int) (a_2 : Int) {r : Bool} (h : p_spec_l00In a_0 a_1 a_2 = some r) : callL E 217 [IN a_0, IN a_1, IN a_2] ([] : Fo) = some (BO r, ([] : Fo)) := by
  unfold p_spec_l00In at h
  refine callW (fu := Try.f217) rfl rfl rfl NN ?_
  intro lp cl hlp hcl
  conv => lhs; whnf
  cases hb1 : (decide (a_0 ≥ a_1))
  · replace h := ifF h (decF hb1); conv => lhs; whnf
    try (rw [hb1]; conv => lhs; whnf)
    try (rw [hb1]; conv => lhs; whnf)
    try (rw [hb1]; conv => lhs; whnf)
    obtain rfl := Option.some.inj h; show _ = _; kernel_rfl
  · replace h := ifT h (decT hb1); conv => lhs; whnf
    try (rw [hb1]; conv => lhs; whnf)
    try (rw [hb1]; conv => lhs; whnf)
    try (rw [hb1]; conv => lhs; whnf)
    obtain rfl := Option.some.inj h; show _ = _; kernel_rfl
theorem pl_l00In (n lo hi : Int) : p_spec_l00In n lo hi = some (inR n lo hi) := by
  unfold p_spec_l00In inR
  split
  · rename_i h; simp [h]
  · rename_i h; simp [h]


noncomputable def p_impl_within (a_0 : Int) (a_1 : Int) (a_2 : Int) : Option Bool :=
  if a_0 ≥ a_1 then
    some (decide (a_0 ≤ a_2))
  else
    some false

set_option maxHeartbeats 4000000 in
theorem L_impl_within (a_0 : Int) (a_1 : Int) (a_2 : Int) {r : Bool} (h : p_impl_within a_0 a_1 a_2 = some r) : callL E 151 [IN a_0, IN a_1, IN a_2] ([] : Fo) = some (BO r, ([] : Fo)) := by
  unfold p_impl_within at h
  refine callW (fu := Try.f151) rfl rfl rfl NN ?_
  intro lp cl hlp hcl
  conv => lhs; whnf
  cases hb1 : (decide (a_0 ≥ a_1))
  · replace h := ifF h (decF hb1); conv => lhs; whnf
    try (rw [hb1]; conv => lhs; whnf)
    try (rw [hb1]; conv => lhs; whnf)
    try (rw [hb1]; conv => lhs; whnf)
    obtain rfl := Option.some.inj h; show _ = _; kernel_rfl
  · replace h := ifT h (decT hb1); conv => lhs; whnf
    try (rw [hb1]; conv => lhs; whnf)
    try (rw [hb1]; conv => lhs; whnf)
    try (rw [hb1]; conv => lhs; whnf)
    obtain rfl := Option.some.inj h; show _ = _; kernel_rfl
theorem pl_within (n lo hi : Int) : p_impl_within n lo hi = some (inR n lo hi) := by
  unfold p_impl_within inR
  split
  · rename_i h; simp [h]
  · rename_i h; simp [h]



structure Sl00Src where
  Code : List Int
  At : Int
  Seed : Int
def rSl00Src (x : Sl00Src) : List D := [.arr (x.Code.map rU), dI x.At, .lit (.int .u64 x.Seed)]
theorem rSl00Src_len : ∀ x, (rSl00Src x).length = 3 := fun _ => rfl

noncomputable def p_spec_l00From (a_0 : List Int) : Option Sl00Src :=
  some (⟨a_0, 0, 0⟩ : Sl00Src)

set_option maxHeartbeats 4000000 in
theorem L_spec_l00From (a_0 : List Int) {r : Sl00Src} (h : p_spec_l00From a_0 = some r) : callL E 95 [.d (.arr (a_0.map rU))] ([] : Fo) = some (.bp 0 0, ([some (.box [.d (.arr (r.Code.map rU)), IN r.At, .d (.lit (.int .u64 r.Seed))])] : Fo)) := by
  unfold p_spec_l00From at h
  refine callW (fu := Try.f95) rfl rfl rfl NN ?_
  intro lp cl hlp hcl
  conv => lhs; whnf
  obtain rfl := Option.some.inj h; show _ = _; kernel_rfl

noncomputable def p_spec_l00Src_next (a_0 : Sl00Src) : Option (Int × Sl00Src) :=
  if a_0.At < (a_0.Code.length : Int) then
    getK a_0.Code a_0.At fun x2 =>
    if (IntKind.i64.wrap (a_0.At + 1)) ≤ (a_0.Code.length : Int) then
      some ((IntKind.i64.wrap x2), (⟨a_0.Code, (IntKind.i64.wrap (a_0.At + 1)), (IntKind.u64.wrap ((IntKind.u64.wrap ((IntKind.u64.wrap (a_0.Seed * 6364136223846793005)) + (IntKind.u64.wrap (IntKind.i64.wrap x2)))) + 1442695040888963407))⟩ : Sl00Src))
    else
      some ((IntKind.i64.wrap (andK .u64 (Int.fdiv (IntKind.u64.wrap ((IntKind.u64.wrap ((IntKind.u64.wrap (a_0.Seed * 6364136223846793005)) + (IntKind.u64.wrap (IntKind.i64.wrap x2)))) + 1442695040888963407)) (2 ^ (min (Int.toNat 40) IntKind.u64.bits))) 255)), (⟨a_0.Code, (IntKind.i64.wrap (a_0.At + 1)), (IntKind.u64.wrap ((IntKind.u64.wrap ((IntKind.u64.wrap (a_0.Seed * 6364136223846793005)) + (IntKind.u64.wrap (IntKind.i64.wrap x2)))) + 1442695040888963407))⟩ : Sl00Src))
  else
    if (IntKind.i64.wrap (a_0.At + 1)) ≤ (a_0.Code.length : Int) then
      some (0, (⟨a_0.Code, (IntKind.i64.wrap (a_0.At + 1)), (IntKind.u64.wrap ((IntKind.u64.wrap ((IntKind.u64.wrap (a_0.Seed * 6364136223846793005)) + (IntKind.u64.wrap 0))) + 1442695040888963407))⟩ : Sl00Src))
    else
      some ((IntKind.i64.wrap (andK .u64 (Int.fdiv (IntKind.u64.wrap ((IntKind.u64.wrap ((IntKind.u64.wrap (a_0.Seed * 6364136223846793005)) + (IntKind.u64.wrap 0))) + 1442695040888963407)) (2 ^ (min (Int.toNat 40) IntKind.u64.bits))) 255)), (⟨a_0.Code, (IntKind.i64.wrap (a_0.At + 1)), (IntKind.u64.wrap ((IntKind.u64.wrap ((IntKind.u64.wrap (a_0.Seed * 6364136223846793005)) + (IntKind.u64.wrap 0))) + 1442695040888963407))⟩ : Sl00Src))

set_option maxHeartbeats 4000000 in
theorem L_spec_l00Src_next (a_0 : Sl00Src) {r : (Int × Sl00Src)} (h : p_spec_l00Src_next a_0 = some r) : callL E 242 [.bp 0 0] ([some (.box [.d (.arr (a_0.Code.map rU)), IN a_0.At, .d (.lit (.int .u64 a_0.Seed))])] : Fo) = some (IN r.1, ([some (.box [.d (.arr (r.2.Code.map rU)), IN r.2.At, .d (.lit (.int .u64 r.2.Seed))])] : Fo)) := by
  unfold p_spec_l00Src_next at h
  refine callW (fu := Try.f242) rfl rfl rfl NN ?_
  intro lp cl hlp hcl
  conv => lhs; whnf
  try rw [len_of (l := a_0.Code) (r := rU)]
  cases hb1 : (decide (a_0.At < (a_0.Code.length : Int)))
  · replace h := ifF h (decF hb1); conv => lhs; whnf
    try rw [len_of (l := a_0.Code) (r := rU)]
    cases hb4 : (decide ((IntKind.i64.wrap (a_0.At + 1)) ≤ (a_0.Code.length : Int)))
    · replace h := ifF h (decF hb4); conv => lhs; whnf
      obtain rfl := Option.some.inj h; show _ = _; kernel_rfl
    · replace h := ifT h (decT hb4); conv => lhs; whnf
      obtain rfl := Option.some.inj h; show _ = _; kernel_rfl
  · replace h := ifT h (decT hb1); conv => lhs; whnf
    obtain ⟨x2, hq_x2, hx_x2', h⟩ := getK_inv h
    have hx_x2 := get_of (r := rU) hx_x2'
    try (rw [decide_eq_true hq_x2]; conv => lhs; whnf)
    rw [hx_x2]
    conv => lhs; whnf
    rw [hx_x2]
    conv => lhs; whnf
    try rw [len_of (l := a_0.Code) (r := rU)]
    cases hb3 : (decide ((IntKind.i64.wrap (a_0.At + 1)) ≤ (a_0.Code.length : Int)))
    · replace h := ifF h (decF hb3); conv => lhs; whnf
      obtain rfl := Option.some.inj h; show _ = _; kernel_rfl
    · replace h := ifT h (decT hb3); conv => lhs; whnf
      obtain rfl := Option.some.inj h; show _ = _; kernel_rfl

noncomputable def p_spec_l00Src_pick (a_0 : Int) (a_1 : Sl00Src) : Option (Int × Sl00Src) :=
  if a_0 ≤ 1 then
    some (0, a_1)
  else
    callK (p_spec_l00Src_next a_1) fun y2 =>
    if a_0 > 200 then
      callK (p_spec_l00Src_next y2.2) fun y4 =>
      grd (a_0 ≠ 0) <|
      some ((Int.tmod (IntKind.i64.wrap ((IntKind.i64.wrap (y2.1 * 256)) + y4.1)) a_0), y4.2)
    else
      grd (a_0 ≠ 0) <|
      some ((Int.tmod y2.1 a_0), y2.2)

set_option maxHeartbeats 4000000 in
theorem L_spec_l00Src_pick (a_0 : Int) (a_1 : Sl00Src) {r : (Int × Sl00Src)} (h : p_spec_l00Src_pick a_0 a_1 = some r) : callL E 153 [.bp 0 0, IN a_0] ([some (.box [.d (.arr (a_1.Code.map rU)), IN a_1.At, .d (.lit (.int .u64 a_1.Seed))])] : Fo) = some (IN r.1, ([some (.box [.d (.arr (r.2.Code.map rU)), IN r.2.At, .d (.lit (.int .u64 r.2.Seed))])] : Fo)) := by
  unfold p_spec_l00Src_pick at h
  refine callW (fu := Try.f153) rfl rfl rfl NN ?_
  intro lp cl hlp hcl
  conv => lhs; whnf
  cases hb1 : (decide (a_0 ≤ 1))
  · replace h := ifF h (decF hb1); conv => lhs; whnf
    obtain ⟨y2, h_y2, h⟩ := callK_inv h
    rw [cl_eq hcl (L_spec_l00Src_next a_1 h_y2)]
    rotate_left
    · show _ = _; kernel_rfl
    · show _ = _; kernel_rfl
    conv => lhs; whnf
    cases hb3 : (decide (a_0 > 200))
    · replace h := ifF h (decF hb3); conv => lhs; whnf
      obtain ⟨hg5, h⟩ := grd_inv h
      rw [rem_run _ _ _ _ hg5]
      conv => lhs; whnf
      obtain rfl := Option.some.inj h; show _ = _; kernel_rfl
    · replace h := ifT h (decT hb3); conv => lhs; whnf
      obtain ⟨y4, h_y4, h⟩ := callK_inv h
      rw [cl_eq hcl (L_spec_l00Src_next y2.2 h_y4)]
      rotate_left
      · show _ = _; kernel_rfl
      · show _ = _; kernel_rfl
      conv => lhs; whnf
      obtain ⟨hg6, h⟩ := grd_inv h
      rw [rem_run _ _ _ _ hg6]
      conv => lhs; whnf
      obtain rfl := Option.some.inj h; show _ = _; kernel_rfl
  · replace h := ifT h (decT hb1); conv => lhs; whnf
    obtain rfl := Option.some.inj h; show _ = _; kernel_rfl
/-- A source of choices from which as many may still be drawn. -/
structure SrcOk (b : Int) (s : Sl00Src) : Prop where
  code : ∀ x ∈ s.Code, 0 ≤ x ∧ x ≤ 255
  len : s.Code.length ≤ 1048576
  lo : 0 ≤ s.At
  hi : s.At + b ≤ 4611686018427387904
theorem SrcOk.le {b c : Int} {s : Sl00Src} (h : SrcOk b s) (hc : c ≤ b) : SrcOk c s := ⟨h.1, h.2, h.3, by have := h.4; omega⟩
theorem nxV_in (sd : Int) : 0 ≤ IntKind.i64.wrap (andK .u64 sd 255) ∧ IntKind.i64.wrap (andK .u64 sd 255) ≤ 255 := by
  unfold andK
  generalize BitVec.ofInt IntKind.u64.bits sd = a
  have h1 : (a &&& BitVec.ofInt IntKind.u64.bits 255).toNat ≤ 255 := by
    rw [BitVec.toNat_and]
    exact Nat.le_trans Nat.and_le_right (by decide)
  generalize (a &&& BitVec.ofInt IntKind.u64.bits 255).toNat = m at h1
  have e1 : IntKind.u64.wrap (m : Int) = m := by unfold IntKind.wrap; simp [IntKind.signed, IntKind.bits]; omega
  rw [e1, wrap_sm _ (by omega) (by omega)]
  omega
theorem next_ok {b : Int} {s : Sl00Src} (hb : 0 ≤ b) (h : SrcOk (b + 1) s) : ∃ v s', p_spec_l00Src_next s = some (v, s') ∧ (0 ≤ v ∧ v ≤ 255) ∧ SrcOk b s' := by
  obtain ⟨h1, h2, h3, h4⟩ := h
  have hw : IntKind.i64.wrap (s.At + 1) = s.At + 1 := wrap_sm _ (by omega) (by omega)
  unfold p_spec_l00Src_next
  rw [hw]
  split
  · rename_i hlt
    rw [getK_in h3 hlt]
    have hb := h1 _ (List.getElem_mem (show s.At.toNat < s.Code.length by omega))
    rw [if_pos (by omega)]
    exact ⟨_, _, rfl, by rw [wrap_sm _ (by omega) (by omega)]; exact hb, h1, h2, by show 0 ≤ s.At + 1; omega, by show s.At + 1 + b ≤ _; omega⟩
  · rename_i hlt
    rw [if_neg (by omega)]
    exact ⟨_, _, rfl, nxV_in _, h1, h2, by show 0 ≤ s.At + 1; omega, by show s.At + 1 + b ≤ _; omega⟩
theorem pick_ok {b : Int} {s : Sl00Src} (m : Int) (hb : 0 ≤ b) (h : SrcOk (b + 2) s) : ∃ r s', p_spec_l00Src_pick m s = some (r, s') ∧ (0 ≤ r ∧ (1 < m → r < m) ∧ (m ≤ 1 → r = 0)) ∧ SrcOk b s' := by
  unfold p_spec_l00Src_pick
  split
  · rename_i hm
    exact ⟨0, s, rfl, ⟨by omega, fun h => by omega, fun _ => rfl⟩, h.le (by omega)⟩
  · rename_i hm
    obtain ⟨v1, s1, e1, b1, o1⟩ := next_ok (b := b + 1) (by omega) (h.le (by omega))
    rw [e1, callK_some]
    split
    · obtain ⟨v2, s2, e2, b2, o2⟩ := next_ok hb o1
      rw [e2, callK_some, grd_pos (by omega)]
      have w1 : IntKind.i64.wrap (v1 * 256) = v1 * 256 := wrap_sm _ (by omega) (by omega)
      have w2 : IntKind.i64.wrap (v1 * 256 + v2) = v1 * 256 + v2 := wrap_sm _ (by omega) (by omega)
      refine ⟨_, _, rfl, ?_, o2⟩
      show 0 ≤ Int.tmod (IntKind.i64.wrap (IntKind.i64.wrap (v1 * 256) + v2)) m ∧ _
      rw [w1, w2]
      exact ⟨Int.tmod_nonneg _ (by omega), fun _ => Int.tmod_lt_of_pos _ (by omega), fun h3 => by omega⟩
    · rw [grd_pos (by omega)]
      exact ⟨_, _, rfl, ⟨Int.tmod_nonneg _ b1.1, fun _ => Int.tmod_lt_of_pos _ (by omega), fun h3 => by omega⟩, o1.le (by omega)⟩
theorem from_ok {code : List Int} (h : ∀ x ∈ code, 0 ≤ x ∧ x ≤ 255) (hl : code.length ≤ 1048576) : ∃ s, p_spec_l00From code = some s ∧ SrcOk 1099511627776 s :=
  ⟨_, rfl, h, hl, by show (0 : Int) ≤ 0; omega, by show (0 : Int) + 1099511627776 ≤ _; omega⟩

def cmpB (a b : ByteArray) : Int := Lib.compareBytes a.data.toList b.data.toList
theorem f_Compare (a b : ByteArray) : callL E 204 [ST a, ST b] [] = some (IN (cmpB a b), []) := callX rfl rfl

noncomputable def p_spec_l00Src_among (a_0 : List Int) (a_1 : Sl00Src) : Option (Int × Sl00Src) :=
  callK (p_spec_l00Src_pick (a_0.length : Int) a_1) fun y1 =>
  getK a_0 y1.1 fun x2 =>
  some (x2, y1.2)

set_option maxHeartbeats 4000000 in
theorem L_spec_l00Src_among (a_0 : List Int) (a_1 : Sl00Src) {r : (Int × Sl00Src)} (h : p_spec_l00Src_among a_0 a_1 = some r) : callL E 138 [.bp 0 0, .d (.arr (a_0.map rI))] ([some (.box [.d (.arr (a_1.Code.map rU)), IN a_1.At, .d (.lit (.int .u64 a_1.Seed))])] : Fo) = some (IN r.1, ([some (.box [.d (.arr (r.2.Code.map rU)), IN r.2.At, .d (.lit (.int .u64 r.2.Seed))])] : Fo)) := by
  unfold p_spec_l00Src_among at h
  refine callW (fu := Try.f138) rfl rfl rfl NN ?_
  intro lp cl hlp hcl
  conv => lhs; whnf
  try rw [len_of (l := a_0) (r := rI)]
  obtain ⟨y1, h_y1, h⟩ := callK_inv h
  rw [cl_eq hcl (L_spec_l00Src_pick (a_0.length : Int) a_1 h_y1)]
  rotate_left
  · show _ = _; kernel_rfl
  · show _ = _; kernel_rfl
  conv => lhs; whnf
  obtain ⟨x2, hq_x2, hx_x2', h⟩ := getK_inv h
  have hx_x2 := get_of (r := rI) hx_x2'
  try (rw [decide_eq_true hq_x2]; conv => lhs; whnf)
  rw [hx_x2]
  conv => lhs; whnf
  rw [hx_x2]
  conv => lhs; whnf
  obtain rfl := Option.some.inj h; show _ = _; kernel_rfl
theorem among_ok {b : Int} {s : Sl00Src} (l : List Int) (hl : 0 < l.length) (hb : 0 ≤ b) (h : SrcOk (b + 2) s) : ∃ r s', p_spec_l00Src_among l s = some (r, s') ∧ r ∈ l ∧ SrcOk b s' := by
  obtain ⟨r, s1, e1, ⟨b1, b2, b3⟩, o1⟩ := pick_ok (l.length : Int) hb h
  unfold p_spec_l00Src_among
  have hr : r < (l.length : Int) := by
    rcases Nat.lt_or_ge 1 l.length with h | h
    · exact b2 (by omega)
    · have := b3 (by omega); omega
  rw [e1, callK_some, getK_in b1 hr]
  exact ⟨_, _, rfl, List.getElem_mem _, o1⟩

noncomputable def p_spec_l00Src_text (a_0 : List ByteArray) (a_1 : Sl00Src) : Option (ByteArray × Sl00Src) :=
  callK (p_spec_l00Src_pick (a_0.length : Int) a_1) fun y1 =>
  getK a_0 y1.1 fun x2 =>
  some (x2, y1.2)

set_option maxHeartbeats 4000000 in
theorem L_spec_l00Src_text (a_0 : List ByteArray) (a_1 : Sl00Src) {r : (ByteArray × Sl00Src)} (h : p_spec_l00Src_text a_0 a_1 = some r) : callL E 184 [.bp 0 0, .d (.arr (a_0.map rS))] ([some (.box [.d (.arr (a_1.Code.map rU)), IN a_1.At, .d (.lit (.int .u64 a_1.Seed))])] : Fo) = some (ST r.1, ([some (.box [.d (.arr (r.2.Code.map rU)), IN r.2.At, .d (.lit (.int .u64 r.2.Seed))])] : Fo)) := by
  unfold p_spec_l00Src_text at h
  refine callW (fu := Try.f184) rfl rfl rfl NN ?_
  intro lp cl hlp hcl
  conv => lhs; whnf
  try rw [len_of (l := a_0) (r := rS)]
  obtain ⟨y1, h_y1, h⟩ := callK_inv h
  rw [cl_eq hcl (L_spec_l00Src_pick (a_0.length : Int) a_1 h_y1)]
  rotate_left
  · show _ = _; kernel_rfl
  · show _ = _; kernel_rfl
  conv => lhs; whnf
  obtain ⟨x2, hq_x2, hx_x2', h⟩ := getK_inv h
  have hx_x2 := get_of (r := rS) hx_x2'
  try (rw [decide_eq_true hq_x2]; conv => lhs; whnf)
  rw [hx_x2]
  conv => lhs; whnf
  rw [hx_x2]
  conv => lhs; whnf
  obtain rfl := Option.some.inj h; show _ = _; kernel_rfl

noncomputable def p_spec_l17DrawKey (a_0 : Sl00Src) : Option (ByteArray × Sl00Src) :=
  callK (p_spec_l00Src_text ([(⟨#[97]⟩ : ByteArray), (⟨#[98]⟩ : ByteArray), (⟨#[99]⟩ : ByteArray), (⟨#[100]⟩ : ByteArray), (⟨#[101]⟩ : ByteArray), (⟨#[97, 98]⟩ : ByteArray), (⟨#[98, 49]⟩ : ByteArray), (⟨#[107, 101, 121, 56, 98, 121, 116, 101]⟩ : ByteArray), (⟨#[0]⟩ : ByteArray), (⟨#[255, 255]⟩ : ByteArray)] : List ByteArray) a_0) fun y1 =>
  some (y1.1, y1.2)

set_option maxHeartbeats 4000000 in
theorem L_spec_l17DrawKey (a_0 : Sl00Src) {r : (ByteArray × Sl00Src)} (h : p_spec_l17DrawKey a_0 = some r) : callL E 243 [.bp 0 0] ([some (.box [.d (.arr (a_0.Code.map rU)), IN a_0.At, .d (.lit (.int .u64 a_0.Seed))])] : Fo) = some (ST r.1, ([some (.box [.d (.arr (r.2.Code.map rU)), IN r.2.At, .d (.lit (.int .u64 r.2.Seed))])] : Fo)) := by
  unfold p_spec_l17DrawKey at h
  refine callW (fu := Try.f243) rfl rfl rfl NN ?_
  intro lp cl hlp hcl
  conv => lhs; whnf
  obtain ⟨y1, h_y1, h⟩ := callK_inv h
  rw [cl_eq hcl (L_spec_l00Src_text ([(⟨#[97]⟩ : ByteArray), (⟨#[98]⟩ : ByteArray), (⟨#[99]⟩ : ByteArray), (⟨#[100]⟩ : ByteArray), (⟨#[101]⟩ : ByteArray), (⟨#[97, 98]⟩ : ByteArray), (⟨#[98, 49]⟩ : ByteArray), (⟨#[107, 101, 121, 56, 98, 121, 116, 101]⟩ : ByteArray), (⟨#[0]⟩ : ByteArray), (⟨#[255, 255]⟩ : ByteArray)] : List ByteArray) a_0 h_y1)]
  rotate_left
  · show _ = _; kernel_rfl
  · show _ = _; kernel_rfl
  conv => lhs; whnf
  obtain rfl := Option.some.inj h; show _ = _; kernel_rfl

noncomputable def p_spec_l17Draw (a_0 : Int) (a_1 : Sl00Src) : Option (Record × Sl00Src) :=
  callK (p_spec_l17DrawKey a_1) fun y1 =>
  callK (p_spec_l00Src_among ([1, 1, 1, 2, 3] : List Int) y1.2) fun y2 =>
  if y2.1 = 1 then
    callK (p_spec_l00Src_text ([(⟨#[]⟩ : ByteArray), (⟨#[49]⟩ : ByteArray), (⟨#[116, 119, 111]⟩ : ByteArray), (⟨#[115, 105, 120, 116, 101, 101, 110, 32, 98, 121, 116, 101, 115, 32, 111, 107]⟩ : ByteArray), (⟨#[0]⟩ : ByteArray)] : List ByteArray) y2.2) fun y4 =>
    some ((⟨y1.1, a_0, y2.1, y4.1, (⟨#[]⟩ : ByteArray)⟩ : Record), y4.2)
  else
    if y2.1 = 3 then
      callK (p_spec_l00Src_text ([(⟨#[97]⟩ : ByteArray), (⟨#[98]⟩ : ByteArray), (⟨#[97, 98]⟩ : ByteArray), (⟨#[99]⟩ : ByteArray)] : List ByteArray) y2.2) fun y6 =>
      callK (p_spec_l00Src_text ([(⟨#[100]⟩ : ByteArray), (⟨#[101]⟩ : ByteArray), (⟨#[98, 49, 0]⟩ : ByteArray), (⟨#[255]⟩ : ByteArray)] : List ByteArray) y6.2) fun y7 =>
      if (Op.bytesLess y6.1.toList y7.1.toList) = true then
        some ((⟨y6.1, a_0, y2.1, (⟨#[]⟩ : ByteArray), y7.1⟩ : Record), y7.2)
      else
        some ((⟨y6.1, a_0, y2.1, (⟨#[]⟩ : ByteArray), (⟨#[255]⟩ : ByteArray)⟩ : Record), y7.2)
    else
      some ((⟨y1.1, a_0, y2.1, (⟨#[]⟩ : ByteArray), (⟨#[]⟩ : ByteArray)⟩ : Record), y2.2)

set_option maxHeartbeats 4000000 in
theorem L_spec_l17Draw (a_0 : Int) (a_1 : Sl00Src) {r : (Record × Sl00Src)} (h : p_spec_l17Draw a_0 a_1 = some r) : callL E 154 [.bp 0 0, IN a_0] ([some (.box [.d (.arr (a_1.Code.map rU)), IN a_1.At, .d (.lit (.int .u64 a_1.Seed))])] : Fo) = some (.agg [ST r.1.Key, IN r.1.Seq, IN r.1.Kind, ST r.1.Value, ST r.1.End], ([some (.box [.d (.arr (r.2.Code.map rU)), IN r.2.At, .d (.lit (.int .u64 r.2.Seed))])] : Fo)) := by
  unfold p_spec_l17Draw at h
  refine callW (fu := Try.f154) rfl rfl rfl NN ?_
  intro lp cl hlp hcl
  conv => lhs; whnf
  obtain ⟨y1, h_y1, h⟩ := callK_inv h
  rw [cl_eq hcl (L_spec_l17DrawKey a_1 h_y1)]
  rotate_left
  · show _ = _; kernel_rfl
  · show _ = _; kernel_rfl
  conv => lhs; whnf
  obtain ⟨y2, h_y2, h⟩ := callK_inv h
  rw [cl_eq hcl (L_spec_l00Src_among ([1, 1, 1, 2, 3] : List Int) y1.2 h_y2)]
  rotate_left
  · show _ = _; kernel_rfl
  · show _ = _; kernel_rfl
  conv => lhs; whnf
  cases hb3 : (y2.1 == 1)
  · replace h := ifF h (beqF hb3); conv => lhs; whnf
    cases hb5 : (y2.1 == 3)
    · replace h := ifF h (beqF hb5); conv => lhs; whnf
      obtain rfl := Option.some.inj h; show _ = _; kernel_rfl
    · replace h := ifT h (beqT hb5); conv => lhs; whnf
      obtain ⟨y6, h_y6, h⟩ := callK_inv h
      rw [cl_eq hcl (L_spec_l00Src_text ([(⟨#[97]⟩ : ByteArray), (⟨#[98]⟩ : ByteArray), (⟨#[97, 98]⟩ : ByteArray), (⟨#[99]⟩ : ByteArray)] : List ByteArray) y2.2 h_y6)]
      rotate_left
      · show _ = _; kernel_rfl
      · show _ = _; kernel_rfl
      conv => lhs; whnf
      obtain ⟨y7, h_y7, h⟩ := callK_inv h
      rw [cl_eq hcl (L_spec_l00Src_text ([(⟨#[100]⟩ : ByteArray), (⟨#[101]⟩ : ByteArray), (⟨#[98, 49, 0]⟩ : ByteArray), (⟨#[255]⟩ : ByteArray)] : List ByteArray) y6.2 h_y7)]
      rotate_left
      · show _ = _; kernel_rfl
      · show _ = _; kernel_rfl
      conv => lhs; whnf
      cases hb8 : (Op.bytesLess y6.1.toList y7.1.toList)
      · replace h := ifF h (booF hb8); conv => lhs; whnf
        obtain rfl := Option.some.inj h; show _ = _; kernel_rfl
      · replace h := ifT h hb8; conv => lhs; whnf
        obtain rfl := Option.some.inj h; show _ = _; kernel_rfl
  · replace h := ifT h (beqT hb3); conv => lhs; whnf
    obtain ⟨y4, h_y4, h⟩ := callK_inv h
    rw [cl_eq hcl (L_spec_l00Src_text ([(⟨#[]⟩ : ByteArray), (⟨#[49]⟩ : ByteArray), (⟨#[116, 119, 111]⟩ : ByteArray), (⟨#[115, 105, 120, 116, 101, 101, 110, 32, 98, 121, 116, 101, 115, 32, 111, 107]⟩ : ByteArray), (⟨#[0]⟩ : ByteArray)] : List ByteArray) y2.2 h_y4)]
    rotate_left
    · show _ = _; kernel_rfl
    · show _ = _; kernel_rfl
    conv => lhs; whnf
    obtain rfl := Option.some.inj h; show _ = _; kernel_rfl

noncomputable def p_spec_l17Less (a_0 : Record) (a_1 : Record) : Option Bool :=
  if (a_0.Key.toList == a_1.Key.toList) = true then
    if ¬ a_0.Seq = a_1.Seq then
      some (decide (a_0.Seq > a_1.Seq))
    else
      if ¬ a_0.Kind = a_1.Kind then
        some (decide (a_0.Kind < a_1.Kind))
      else
        if (a_0.Value.toList == a_1.Value.toList) = true then
          some (Op.bytesLess a_0.End.toList a_1.End.toList)
        else
          some (Op.bytesLess a_0.Value.toList a_1.Value.toList)
  else
    some (Op.bytesLess a_0.Key.toList a_1.Key.toList)

set_option maxHeartbeats 4000000 in
theorem L_spec_l17Less (a_0 : Record) (a_1 : Record) {r : Bool} (h : p_spec_l17Less a_0 a_1 = some r) : callL E 163 [.agg [ST a_0.Key, IN a_0.Seq, IN a_0.Kind, ST a_0.Value, ST a_0.End], .agg [ST a_1.Key, IN a_1.Seq, IN a_1.Kind, ST a_1.Value, ST a_1.End]] ([] : Fo) = some (BO r, ([] : Fo)) := by
  unfold p_spec_l17Less at h
  refine callW (fu := Try.f163) rfl rfl rfl NN ?_
  intro lp cl hlp hcl
  conv => lhs; whnf
  cases hb1 : (a_0.Key.toList == a_1.Key.toList)
  · replace h := ifF h (booF hb1); conv => lhs; whnf
    obtain rfl := Option.some.inj h; show _ = _; kernel_rfl
  · replace h := ifT h hb1; conv => lhs; whnf
    cases hb2 : (a_0.Seq != a_1.Seq)
    · replace h := ifF h ((fun h => not_not_intro (bneF h)) hb2); conv => lhs; whnf
      cases hb3 : (a_0.Kind != a_1.Kind)
      · replace h := ifF h ((fun h => not_not_intro (bneF h)) hb3); conv => lhs; whnf
        cases hb4 : (a_0.Value.toList == a_1.Value.toList)
        · replace h := ifF h (booF hb4); conv => lhs; whnf
          obtain rfl := Option.some.inj h; show _ = _; kernel_rfl
        · replace h := ifT h hb4; conv => lhs; whnf
          obtain rfl := Option.some.inj h; show _ = _; kernel_rfl
      · replace h := ifT h (bneT hb3); conv => lhs; whnf
        obtain rfl := Option.some.inj h; show _ = _; kernel_rfl
    · replace h := ifT h (bneT hb2); conv => lhs; whnf
      obtain rfl := Option.some.inj h; show _ = _; kernel_rfl

noncomputable def p_spec_l17Into (a_0 : List Record) (a_1 : Record) : Option (List Record) :=
  grd (a_0.length < 4611686018427387904) <|
  forK a_0 (fun (i6 : Nat) x8 (_ : Unit) (nx7 : Unit → Option _) =>
    callK (p_spec_l17Less x8 a_1) fun y9 =>
    if y9 = true then
      nx7 ()
    else
      if ((x8.Key.toList == a_1.Key.toList) && ((x8.Seq == a_1.Seq) && ((x8.Kind == a_1.Kind) && ((x8.Value.toList == a_1.Value.toList) && ((x8.End.toList == a_1.End.toList) && true))))) = true then
        some a_0
      else
        grd (0 ≤ 0 ∧ 0 ≤ (i6 : Int) ∧ (i6 : Int) ≤ (a_0.length : Int)) <|
        grd (appOk (0 + ((a_0.drop (Int.toNat 0)).take (Int.toNat (i6 : Int) - Int.toNat 0)).length) 64 = true) <|
        grd (appOk (((a_0.drop (Int.toNat 0)).take (Int.toNat (i6 : Int) - Int.toNat 0)).length + 1) 64 = true) <|
        grd (0 ≤ (i6 : Int) ∧ (i6 : Int) ≤ (a_0.length : Int) ∧ (a_0.length : Int) ≤ (a_0.length : Int)) <|
        grd (appOk ((((a_0.drop (Int.toNat 0)).take (Int.toNat (i6 : Int) - Int.toNat 0)) ++ ([a_1] : List Record)).length + ((a_0.drop (Int.toNat (i6 : Int))).take (Int.toNat (a_0.length : Int) - Int.toNat (i6 : Int))).length) 64 = true) <|
        some ((((a_0.drop (Int.toNat 0)).take (Int.toNat (i6 : Int) - Int.toNat 0)) ++ ([a_1] : List Record)) ++ ((a_0.drop (Int.toNat (i6 : Int))).take (Int.toNat (a_0.length : Int) - Int.toNat (i6 : Int))))) () (fun (_ : Unit) =>
    grd (0 ≤ 0 ∧ 0 ≤ (a_0.length : Int) ∧ (a_0.length : Int) ≤ (a_0.length : Int)) <|
    grd (appOk (0 + ((a_0.drop (Int.toNat 0)).take (Int.toNat (a_0.length : Int) - Int.toNat 0)).length) 64 = true) <|
    grd (appOk (((a_0.drop (Int.toNat 0)).take (Int.toNat (a_0.length : Int) - Int.toNat 0)).length + 1) 64 = true) <|
    grd (0 ≤ (a_0.length : Int) ∧ (a_0.length : Int) ≤ (a_0.length : Int) ∧ (a_0.length : Int) ≤ (a_0.length : Int)) <|
    grd (appOk ((((a_0.drop (Int.toNat 0)).take (Int.toNat (a_0.length : Int) - Int.toNat 0)) ++ ([a_1] : List Record)).length + ((a_0.drop (Int.toNat (a_0.length : Int))).take (Int.toNat (a_0.length : Int) - Int.toNat (a_0.length : Int))).length) 64 = true) <|
    some ((((a_0.drop (Int.toNat 0)).take (Int.toNat (a_0.length : Int) - Int.toNat 0)) ++ ([a_1] : List Record)) ++ ((a_0.drop (Int.toNat (a_0.length : Int))).take (Int.toNat (a_0.length : Int) - Int.toNat (a_0.length : Int)))))

set_option maxHeartbeats 4000000 in
theorem L_spec_l17Into (a_0 : List Record) (a_1 : Record) {r : (List Record)} (h : p_spec_l17Into a_0 a_1 = some r) : callL E 198 [.d (.arr (a_0.map rRecord)), .agg [ST a_1.Key, IN a_1.Seq, IN a_1.Kind, ST a_1.Value, ST a_1.End]] ([] : Fo) = some (.d (.arr (r.map rRecord)), ([] : Fo)) := by
  unfold p_spec_l17Into at h
  refine callW (fu := Try.f198) rfl rfl rfl NN ?_
  intro lp cl hlp hcl
  conv => lhs; whnf
  obtain ⟨hl_i6, h⟩ := grd_inv h
  refine loop_for hlp (l := a_0) hl_i6 (fun (i6 : Nat) (_ : Unit) => ([.d (.arr (a_0.map rRecord)), .dead, .dead, .bp 0 0, .dead, IN (i6 : Int)] ++ List.replicate 42 .dead : List V)) (fun (i6 : Nat) (_ : Unit) => ([some (.box [ST a_1.Key, IN a_1.Seq, IN a_1.Kind, ST a_1.Value, ST a_1.End])] : Fo)) (fun (r : (List Record)) => ((.d (.arr (r.map rRecord)) : V), ([] : Fo))) ?_ ?_ () _ (fun kk => by kernel_rfl) h
  · clear h
    rintro next_nx7 nx7 i6 hi_i6 hnx7 ⟨⟩ r h
    try dsimp only at h
    have hn_i6 : i6 < 4611686018427387904 := by omega
    have hx_x8 := get_map rRecord a_0 i6 hi_i6
    generalize a_0[i6] = x8 at h hx_x8
    have hd_i6 : (decide ((i6 : Int) < (a_0.length : Int))) = true := decide_eq_true (by omega)
    conv => lhs; whnf
    try rw [len_of (l := a_0) (r := rRecord)]
    rw [hd_i6]
    conv => lhs; whnf
    try (rw [hd_i6]; conv => lhs; whnf)
    try (rw [hd_i6]; conv => lhs; whnf)
    try (rw [decide_eq_true hq_x8]; conv => lhs; whnf)
    rw [hx_x8]
    conv => lhs; whnf
    try (rw [hd_i6]; conv => lhs; whnf)
    rw [hx_x8]
    conv => lhs; whnf
    try (rw [hd_i6]; conv => lhs; whnf)
    try (rw [hd_i6]; conv => lhs; whnf)
    obtain ⟨y9, h_y9, h⟩ := callK_inv h
    rw [cl_eq hcl (L_spec_l17Less x8 a_1 h_y9)]
    rotate_left
    · show _ = _; kernel_rfl
    · show _ = _; kernel_rfl
    conv => lhs; whnf
    try (rw [hd_i6]; conv => lhs; whnf)
    cases hb10 : y9
    · replace h := ifF h (booF hb10); conv => lhs; whnf
      try rw [len_of (l := a_0) (r := rRecord)]
      try (rw [hd_i6]; conv => lhs; whnf)
      try (rw [hd_i6]; conv => lhs; whnf)
      try (rw [hd_i6]; conv => lhs; whnf)
      try (rw [decide_eq_true hq_x8]; conv => lhs; whnf)
      rw [hx_x8]
      conv => lhs; whnf
      try (rw [hd_i6]; conv => lhs; whnf)
      rw [hx_x8]
      conv => lhs; whnf
      try (rw [hd_i6]; conv => lhs; whnf)
      try (rw [hd_i6]; conv => lhs; whnf)
      try (rw [hd_i6]; conv => lhs; whnf)
      cases hb11 : ((x8.Key.toList == a_1.Key.toList) && ((x8.Seq == a_1.Seq) && ((x8.Kind == a_1.Kind) && ((x8.Value.toList == a_1.Value.toList) && ((x8.End.toList == a_1.End.toList) && true)))))
      · replace h := ifF h (booF hb11); conv => lhs; whnf
        obtain ⟨hg12, h⟩ := grd_inv h
        try (rw [allLen_map rRecord _ rRecord_len]; conv => lhs; whnf)
        try rw [List.length_map]
        try (rw [decide_eq_true hg12.1]; conv => lhs; whnf)
        try (rw [decide_eq_true hg12.2.1]; conv => lhs; whnf)
        try (rw [decide_eq_true hg12.2.2])
        conv => lhs; whnf
        try rw [cut_of (r := rRecord) (l := a_0)]
        obtain ⟨hg13, h⟩ := grd_inv h
        rw [app_eq hg13 ?h1 ?h2]
        case h1 => first | exact rfl | (simp only [List.length_map, List.length_cons, List.length_nil]; done) | (rw [List.length_map]; rfl)
        case h2 => exact rfl
        conv => lhs; whnf
        rw [allLen_map rRecord _ rRecord_len]
        conv => lhs; whnf
        first | (rw [nil_app_of (r := rRecord) (m := ((a_0.drop (Int.toNat 0)).take (Int.toNat (i6 : Int) - Int.toNat 0))) ?hh]; case hh => exact rfl) | skip
        obtain ⟨hg14, h⟩ := grd_inv h
        rw [app_eq hg14 ?h1 ?h2]
        case h1 => first | exact rfl | (simp only [List.length_map, List.length_cons, List.length_nil]; done) | (rw [List.length_map]; rfl)
        case h2 => exact rfl
        conv => lhs; whnf
        first | (rw [map_app_of (r := rRecord) (l := ((a_0.drop (Int.toNat 0)).take (Int.toNat (i6 : Int) - Int.toNat 0))) (m := ([a_1] : List Record)) ?hh]; case hh => exact rfl) | skip
        obtain ⟨hg15, h⟩ := grd_inv h
        try (rw [allLen_map rRecord _ rRecord_len]; conv => lhs; whnf)
        try rw [List.length_map]
        try (rw [decide_eq_true hg15.1]; conv => lhs; whnf)
        try (rw [decide_eq_true hg15.2.1]; conv => lhs; whnf)
        try (rw [decide_eq_true hg15.2.2])
        conv => lhs; whnf
        try rw [cut_of (r := rRecord) (l := a_0)]
        obtain ⟨hg16, h⟩ := grd_inv h
        rw [app_eq hg16 ?h1 ?h2]
        case h1 => first | exact rfl | (simp only [List.length_map, List.length_cons, List.length_nil]; done) | (rw [List.length_map]; rfl)
        case h2 => exact rfl
        conv => lhs; whnf
        rw [allLen_map rRecord _ rRecord_len]
        conv => lhs; whnf
        first | (rw [map_app_of (r := rRecord) (l := (((a_0.drop (Int.toNat 0)).take (Int.toNat (i6 : Int) - Int.toNat 0)) ++ ([a_1] : List Record))) (m := ((a_0.drop (Int.toNat (i6 : Int))).take (Int.toNat (a_0.length : Int) - Int.toNat (i6 : Int)))) ?hh]; case hh => exact rfl) | skip
        obtain rfl := Option.some.inj h; show _ = _; kernel_rfl
      · replace h := ifT h hb11; conv => lhs; whnf
        obtain rfl := Option.some.inj h; show _ = _; kernel_rfl
    · replace h := ifT h hb10; conv => lhs; whnf
      rw [wrap_nat i6 (by have := hn_i6; omega)]
      exact hnx7 _ _ _ _ (fun kk => by kernel_rfl) h
  · clear h
    rintro next_nx7 ⟨⟩ r h
    try dsimp only at h
    have hd_i6 : (decide ((a_0.length : Int) < (a_0.length : Int))) = false := decide_eq_false (by omega)
    conv => lhs; whnf
    try rw [len_of (l := a_0) (r := rRecord)]
    rw [hd_i6]
    conv => lhs; whnf
    try (rw [hd_i6]; conv => lhs; whnf)
    try (rw [hd_i6]; conv => lhs; whnf)
    try (rw [hd_i6]; conv => lhs; whnf)
    try (rw [hd_i6]; conv => lhs; whnf)
    try (rw [hd_i6]; conv => lhs; whnf)
    try (rw [hd_i6]; conv => lhs; whnf)
    try rw [len_of (l := a_0) (r := rRecord)]
    try (rw [hd_i6]; conv => lhs; whnf)
    try (rw [hd_i6]; conv => lhs; whnf)
    try (rw [hd_i6]; conv => lhs; whnf)
    try (rw [hd_i6]; conv => lhs; whnf)
    try (rw [hd_i6]; conv => lhs; whnf)
    try (rw [hd_i6]; conv => lhs; whnf)
    try (rw [hd_i6]; conv => lhs; whnf)
    obtain ⟨hg17, h⟩ := grd_inv h
    try (rw [allLen_map rRecord _ rRecord_len]; conv => lhs; whnf)
    try rw [List.length_map]
    try (rw [decide_eq_true hg17.1]; conv => lhs; whnf)
    try (rw [decide_eq_true hg17.2.1]; conv => lhs; whnf)
    try (rw [decide_eq_true hg17.2.2])
    conv => lhs; whnf
    try rw [cut_of (r := rRecord) (l := a_0)]
    obtain ⟨hg18, h⟩ := grd_inv h
    rw [app_eq hg18 ?h1 ?h2]
    case h1 => first | exact rfl | (simp only [List.length_map, List.length_cons, List.length_nil]; done) | (rw [List.length_map]; rfl)
    case h2 => exact rfl
    conv => lhs; whnf
    rw [allLen_map rRecord _ rRecord_len]
    conv => lhs; whnf
    first | (rw [nil_app_of (r := rRecord) (m := ((a_0.drop (Int.toNat 0)).take (Int.toNat (a_0.length : Int) - Int.toNat 0))) ?hh]; case hh => exact rfl) | skip
    obtain ⟨hg19, h⟩ := grd_inv h
    rw [app_eq hg19 ?h1 ?h2]
    case h1 => first | exact rfl | (simp only [List.length_map, List.length_cons, List.length_nil]; done) | (rw [List.length_map]; rfl)
    case h2 => exact rfl
    conv => lhs; whnf
    first | (rw [map_app_of (r := rRecord) (l := ((a_0.drop (Int.toNat 0)).take (Int.toNat (a_0.length : Int) - Int.toNat 0))) (m := ([a_1] : List Record)) ?hh]; case hh => exact rfl) | skip
    obtain ⟨hg20, h⟩ := grd_inv h
    try (rw [allLen_map rRecord _ rRecord_len]; conv => lhs; whnf)
    try rw [List.length_map]
    try (rw [decide_eq_true hg20.1]; conv => lhs; whnf)
    try (rw [decide_eq_true hg20.2.1]; conv => lhs; whnf)
    try (rw [decide_eq_true hg20.2.2])
    conv => lhs; whnf
    try rw [cut_of (r := rRecord) (l := a_0)]
    obtain ⟨hg21, h⟩ := grd_inv h
    rw [app_eq hg21 ?h1 ?h2]
    case h1 => first | exact rfl | (simp only [List.length_map, List.length_cons, List.length_nil]; done) | (rw [List.length_map]; rfl)
    case h2 => exact rfl
    conv => lhs; whnf
    rw [allLen_map rRecord _ rRecord_len]
    conv => lhs; whnf
    first | (rw [map_app_of (r := rRecord) (l := (((a_0.drop (Int.toNat 0)).take (Int.toNat (a_0.length : Int) - Int.toNat 0)) ++ ([a_1] : List Record))) (m := ((a_0.drop (Int.toNat (a_0.length : Int))).take (Int.toNat (a_0.length : Int) - Int.toNat (a_0.length : Int)))) ?hh]; case hh => exact rfl) | skip
    obtain rfl := Option.some.inj h; show _ = _; kernel_rfl

noncomputable def p_spec_l17DrawRun (a_0 : Int) (a_1 : Sl00Src) : Option ((List Record) × Sl00Src) :=
  callK (p_spec_l00Src_pick 3 a_1) fun y1 =>
  callK (p_spec_l00Src_pick (IntKind.i64.wrap (a_0 + 1)) y1.2) fun y2 =>
  iterK (fun ((v3, v4, v5, v6) : ((List Record) × Int × Int × Sl00Src)) (nx7 : ((List Record) × Int × Int × Sl00Src) → Option _) =>
    if v5 > 0 then
      callK (p_spec_l00Src_pick 2 v6) fun y9 =>
      callK (p_spec_l17Draw (IntKind.i64.wrap (v4 + (IntKind.i64.wrap (1 + y9.1)))) y9.2) fun y10 =>
      callK (p_spec_l17Into v3 y10.1) fun y11 =>
      nx7 (y11, (IntKind.i64.wrap (v4 + (IntKind.i64.wrap (1 + y9.1)))), (IntKind.i64.wrap (v5 - 1)), y10.2)
    else
      some (v3, v6)) NN (([] : List Record), y1.1, y2.1, y2.2)

set_option maxHeartbeats 4000000 in
theorem L_spec_l17DrawRun (a_0 : Int) (a_1 : Sl00Src) {r : ((List Record) × Sl00Src)} (h : p_spec_l17DrawRun a_0 a_1 = some r) : callL E 94 [.bp 0 0, IN a_0] ([some (.box [.d (.arr (a_1.Code.map rU)), IN a_1.At, .d (.lit (.int .u64 a_1.Seed))])] : Fo) = some (.d (.arr (r.1.map rRecord)), ([some (.box [.d (.arr (r.2.Code.map rU)), IN r.2.At, .d (.lit (.int .u64 r.2.Seed))])] : Fo)) := by
  unfold p_spec_l17DrawRun at h
  refine callW (fu := Try.f94) rfl rfl rfl NN ?_
  intro lp cl hlp hcl
  conv => lhs; whnf
  obtain ⟨y1, h_y1, h⟩ := callK_inv h
  rw [cl_eq hcl (L_spec_l00Src_pick 3 a_1 h_y1)]
  rotate_left
  · show _ = _; kernel_rfl
  · show _ = _; kernel_rfl
  conv => lhs; whnf
  obtain ⟨y2, h_y2, h⟩ := callK_inv h
  rw [cl_eq hcl (L_spec_l00Src_pick (IntKind.i64.wrap (a_0 + 1)) y1.2 h_y2)]
  rotate_left
  · show _ = _; kernel_rfl
  · show _ = _; kernel_rfl
  conv => lhs; whnf
  refine loop_iter hlp (fun ((v3, v4, v5, v6) : ((List Record) × Int × Int × Sl00Src)) => ([.bp 0 0, .dead, .dead, .dead, .dead, .d (.arr (v3.map rRecord)), IN v4, IN v5] ++ List.replicate 22 .dead : List V)) (fun ((v3, v4, v5, v6) : ((List Record) × Int × Int × Sl00Src)) => ([some (.box [.d (.arr (v6.Code.map rU)), IN v6.At, .d (.lit (.int .u64 v6.Seed))])] : Fo)) (fun (r : ((List Record) × Sl00Src)) => ((.d (.arr (r.1.map rRecord)) : V), ([some (.box [.d (.arr (r.2.Code.map rU)), IN r.2.At, .d (.lit (.int .u64 r.2.Seed))])] : Fo))) ?_ (([] : List Record), y1.1, y2.1, y2.2) _ (fun kk => by kernel_rfl) h
  clear h
  rintro next_nx7 nx7 hnx7 ⟨v3, v4, v5, v6⟩ r h
  try dsimp only at h
  conv => lhs; whnf
  cases hb8 : (decide (v5 > 0))
  · replace h := ifF h (decF hb8); conv => lhs; whnf
    obtain rfl := Option.some.inj h; show _ = _; kernel_rfl
  · replace h := ifT h (decT hb8); conv => lhs; whnf
    obtain ⟨y9, h_y9, h⟩ := callK_inv h
    rw [cl_eq hcl (L_spec_l00Src_pick 2 v6 h_y9)]
    rotate_left
    · show _ = _; kernel_rfl
    · show _ = _; kernel_rfl
    conv => lhs; whnf
    obtain ⟨y10, h_y10, h⟩ := callK_inv h
    rw [cl_eq hcl (L_spec_l17Draw (IntKind.i64.wrap (v4 + (IntKind.i64.wrap (1 + y9.1)))) y9.2 h_y10)]
    rotate_left
    · show _ = _; kernel_rfl
    · show _ = _; kernel_rfl
    conv => lhs; whnf
    obtain ⟨y11, h_y11, h⟩ := callK_inv h
    rw [cl_eq hcl (L_spec_l17Into v3 y10.1 h_y11)]
    rotate_left
    · show _ = _; kernel_rfl
    · show _ = _; kernel_rfl
    conv => lhs; whnf
    exact hnx7 _ _ _ _ (fun kk => by kernel_rfl) h

noncomputable def p_spec_A8Run (a_0 : List Int) (a_1 : Int) : Option (List Record) :=
  callK (p_spec_l00From a_0) fun y1 =>
  callK (p_spec_l17DrawRun a_1 y1) fun y2 =>
  some y2.1

set_option maxHeartbeats 4000000 in
theorem L_spec_A8Run (a_0 : List Int) (a_1 : Int) {r : (List Record)} (h : p_spec_A8Run a_0 a_1 = some r) : callL E 15 [.d (.arr (a_0.map rU)), IN a_1] ([] : Fo) = some (.d (.arr (r.map rRecord)), ([] : Fo)) := by
  unfold p_spec_A8Run at h
  refine callW (fu := Try.f15) rfl rfl rfl NN ?_
  intro lp cl hlp hcl
  conv => lhs; whnf
  obtain ⟨y1, h_y1, h⟩ := callK_inv h
  rw [cl_eq hcl (L_spec_l00From a_0 h_y1)]
  rotate_left
  · show _ = _; kernel_rfl
  · show _ = _; kernel_rfl
  conv => lhs; whnf
  obtain ⟨y2, h_y2, h⟩ := callK_inv h
  rw [cl_eq hcl (L_spec_l17DrawRun a_1 y1 h_y2)]
  rotate_left
  · show _ = _; kernel_rfl
  · show _ = _; kernel_rfl
  conv => lhs; whnf
  obtain rfl := Option.some.inj h; show _ = _; kernel_rfl

noncomputable def p_laws_a8At (a_0 : List Int) (a_1 : Int) (a_2 : Int) : Option Int :=
  if a_2 ≤ 1 then
    some 0
  else
    grd (a_0.length < 4611686018427387904) <|
    forK a_0 (fun (i6 : Nat) x9 (v7 : Int) (nx8 : Int → Option _) =>
      nx8 (Int.tmod (IntKind.i64.wrap ((IntKind.i64.wrap (v7 * 31)) + (IntKind.i64.wrap x9))) 1000003)) (IntKind.i64.wrap ((IntKind.i64.wrap (a_1 * 7)) + 3)) (fun (v7 : Int) =>
      grd (a_2 ≠ 0) <|
      some (Int.tmod v7 a_2))

set_option maxHeartbeats 4000000 in
theorem L_laws_a8At (a_0 : List Int) (a_1 : Int) (a_2 : Int) {r : Int} (h : p_laws_a8At a_0 a_1 a_2 = some r) : callL E 16 [.d (.arr (a_0.map rU)), IN a_1, IN a_2] ([] : Fo) = some (IN r, ([] : Fo)) := by
  unfold p_laws_a8At at h
  refine callW (fu := Try.f16) rfl rfl rfl NN ?_
  intro lp cl hlp hcl
  conv => lhs; whnf
  cases hb1 : (decide (a_2 ≤ 1))
  · replace h := ifF h (decF hb1); conv => lhs; whnf
    obtain ⟨hl_i6, h⟩ := grd_inv h
    refine loop_for hlp (l := a_0) hl_i6 (fun (i6 : Nat) (v7 : Int) => ([.d (.arr (a_0.map rU)), .dead, IN a_2, .dead, .dead, .dead, .dead, IN v7, IN (i6 : Int)] ++ List.replicate 23 .dead : List V)) (fun (i6 : Nat) (v7 : Int) => ([] : Fo)) (fun (r : Int) => ((IN r : V), ([] : Fo))) ?_ ?_ (IntKind.i64.wrap ((IntKind.i64.wrap (a_1 * 7)) + 3)) _ (fun kk => by kernel_rfl) h
    · clear h
      rintro next_nx8 nx8 i6 hi_i6 hnx8 v7 r h
      try dsimp only at h
      have hn_i6 : i6 < 4611686018427387904 := by omega
      have hx_x9 := get_map rU a_0 i6 hi_i6
      generalize a_0[i6] = x9 at h hx_x9
      have hd_i6 : (decide ((i6 : Int) < (a_0.length : Int))) = true := decide_eq_true (by omega)
      conv => lhs; whnf
      try rw [len_of (l := a_0) (r := rU)]
      rw [hd_i6]
      conv => lhs; whnf
      try (rw [decide_eq_true hq_x9]; conv => lhs; whnf)
      rw [hx_x9]
      conv => lhs; whnf
      rw [hx_x9]
      conv => lhs; whnf
      try (rw [rem_run _ _ _ 1000003 (by decide)]; conv => lhs; whnf)
      conv => lhs; whnf
      rw [wrap_nat i6 (by have := hn_i6; omega)]
      exact hnx8 _ _ _ _ (fun kk => by kernel_rfl) h
    · clear h
      rintro next_nx8 v7 r h
      try dsimp only at h
      have hd_i6 : (decide ((a_0.length : Int) < (a_0.length : Int))) = false := decide_eq_false (by omega)
      conv => lhs; whnf
      try rw [len_of (l := a_0) (r := rU)]
      rw [hd_i6]
      conv => lhs; whnf
      obtain ⟨hg10, h⟩ := grd_inv h
      rw [rem_run _ _ _ _ hg10]
      conv => lhs; whnf
      obtain rfl := Option.some.inj h; show _ = _; kernel_rfl
  · replace h := ifT h (decT hb1); conv => lhs; whnf
    obtain rfl := Option.some.inj h; show _ = _; kernel_rfl

noncomputable def p_impl_ValidKey (a_0 : ByteArray) : Option Bool :=
  some (inR (ByteArray.size a_0 : Int) 1 8)

set_option maxHeartbeats 4000000 in
theorem L_impl_ValidKey (a_0 : ByteArray) {r : Bool} (h : p_impl_ValidKey a_0 = some r) : callL E 104 [ST a_0] ([] : Fo) = some (BO r, ([] : Fo)) := by
  unfold p_impl_ValidKey at h
  refine callW (fu := Try.f104) rfl rfl rfl NN ?_
  intro lp cl hlp hcl
  conv => lhs; whnf
  rw [cl_eq hcl (L_impl_within (ByteArray.size a_0 : Int) 1 8 (pl_within (ByteArray.size a_0 : Int) 1 8))]
  rotate_left
  · show _ = _; kernel_rfl
  · show _ = _; kernel_rfl
  conv => lhs; whnf
  obtain rfl := Option.some.inj h; show _ = _; kernel_rfl

noncomputable def p_impl_pairsOk (a_0 : List Pair) : Option Bool :=
  grd (a_0.length < 4611686018427387904) <|
  forK a_0 (fun (i10 : Nat) x12 (_ : Unit) (nx11 : Unit → Option _) =>
    callK (p_impl_ValidKey x12.Key) fun y13 =>
    if y13 = true then
      if (ByteArray.size x12.Value : Int) > 16 then
        some false
      else
        if (i10 : Int) > 0 then
          getK a_0 (IntKind.i64.wrap ((i10 : Int) - 1)) fun x17 =>
          if ((Op.bytesLess x12.Key.toList x17.Key.toList) || (x12.Key.toList == x17.Key.toList)) = true then
            some false
          else
            nx11 ()
        else
          nx11 ()
    else
      some false) () (fun (_ : Unit) =>
    some true)

set_option maxHeartbeats 4000000 in
theorem L_impl_pairsOk (a_0 : List Pair) {r : Bool} (h : p_impl_pairsOk a_0 = some r) : callL E 96 [.d (.arr (a_0.map rPair))] ([] : Fo) = some (BO r, ([] : Fo)) := by
  unfold p_impl_pairsOk at h
  refine callW (fu := Try.f96) rfl rfl rfl NN ?_
  intro lp cl hlp hcl
  conv => lhs; whnf
  try rw [len_of (l := a_0) (r := rPair)]
  obtain ⟨hl_i10, h⟩ := grd_inv h
  refine loop_for hlp (l := a_0) hl_i10 (fun (i10 : Nat) (_ : Unit) => ([.d (.arr (a_0.map rPair)), .dead, .dead, .dead, .dead, .d (.arr (a_0.map rPair)), IN (a_0.length : Int), IN (i10 : Int)] ++ List.replicate 30 .dead : List V)) (fun (i10 : Nat) (_ : Unit) => ([] : Fo)) (fun (r : Bool) => ((BO r : V), ([] : Fo))) ?_ ?_ () _ (fun kk => by kernel_rfl) h
  · clear h
    rintro next_nx11 nx11 i10 hi_i10 hnx11 ⟨⟩ r h
    try dsimp only at h
    have hn_i10 : i10 < 4611686018427387904 := by omega
    have hx_x12 := get_map rPair a_0 i10 hi_i10
    generalize a_0[i10] = x12 at h hx_x12
    have hd_i10 : (decide ((i10 : Int) < (a_0.length : Int))) = true := decide_eq_true (by omega)
    conv => lhs; whnf
    rw [hd_i10]
    conv => lhs; whnf
    try (rw [decide_eq_true hq_x12]; conv => lhs; whnf)
    rw [hx_x12]
    conv => lhs; whnf
    rw [hx_x12]
    conv => lhs; whnf
    obtain ⟨y13, h_y13, h⟩ := callK_inv h
    rw [cl_eq hcl (L_impl_ValidKey x12.Key h_y13)]
    rotate_left
    · show _ = _; kernel_rfl
    · show _ = _; kernel_rfl
    conv => lhs; whnf
    cases hb14 : y13
    · replace h := ifF h (booF hb14); conv => lhs; whnf
      try (rw [hb14]; conv => lhs; whnf)
      try (rw [hb14]; conv => lhs; whnf)
      try (rw [hb14]; conv => lhs; whnf)
      try (rw [hb14]; conv => lhs; whnf)
      obtain rfl := Option.some.inj h; show _ = _; kernel_rfl
    · replace h := ifT h hb14; conv => lhs; whnf
      try (rw [hb14]; conv => lhs; whnf)
      try (rw [hb14]; conv => lhs; whnf)
      try (rw [hb14]; conv => lhs; whnf)
      try (rw [hb14]; conv => lhs; whnf)
      cases hb15 : (decide ((ByteArray.size x12.Value : Int) > 16))
      · replace h := ifF h (decF hb15); conv => lhs; whnf
        try (rw [hb15]; conv => lhs; whnf)
        try (rw [hb15]; conv => lhs; whnf)
        cases hb16 : (decide ((i10 : Int) > 0))
        · replace h := ifF h (decF hb16); conv => lhs; whnf
          try (rw [hb16]; conv => lhs; whnf)
          try (rw [hb16]; conv => lhs; whnf)
          try (rw [hb16]; conv => lhs; whnf)
          try (rw [hb16]; conv => lhs; whnf)
          try (rw [hb16]; conv => lhs; whnf)
          try (rw [hb16]; conv => lhs; whnf)
          try (rw [hb16]; conv => lhs; whnf)
          try (rw [hb16]; conv => lhs; whnf)
          try (rw [hb15]; conv => lhs; whnf)
          try (rw [hb16]; conv => lhs; whnf)
          try (rw [hb15]; conv => lhs; whnf)
          rw [wrap_nat i10 (by have := hn_i10; omega)]
          exact hnx11 _ _ _ _ (fun kk => by kernel_rfl) h
        · replace h := ifT h (decT hb16); conv => lhs; whnf
          try (rw [hb16]; conv => lhs; whnf)
          try (rw [hb16]; conv => lhs; whnf)
          try (rw [hb16]; conv => lhs; whnf)
          try (rw [hb16]; conv => lhs; whnf)
          try (rw [hb16]; conv => lhs; whnf)
          obtain ⟨x17, hq_x17, hx_x17', h⟩ := getK_inv h
          have hx_x17 := get_of (r := rPair) hx_x17'
          try (rw [decide_eq_true hq_x17]; conv => lhs; whnf)
          rw [hx_x17]
          conv => lhs; whnf
          try (rw [hb16]; conv => lhs; whnf)
          try (rw [hb16]; conv => lhs; whnf)
          rw [hx_x17]
          conv => lhs; whnf
          try (rw [hb16]; conv => lhs; whnf)
          try (rw [hb15]; conv => lhs; whnf)
          try (rw [hb16]; conv => lhs; whnf)
          try (rw [hb15]; conv => lhs; whnf)
          cases hb18 : ((Op.bytesLess x12.Key.toList x17.Key.toList) || (x12.Key.toList == x17.Key.toList))
          · replace h := ifF h (booF hb18); conv => lhs; whnf
            rw [wrap_nat i10 (by have := hn_i10; omega)]
            exact hnx11 _ _ _ _ (fun kk => by kernel_rfl) h
          · replace h := ifT h hb18; conv => lhs; whnf
            obtain rfl := Option.some.inj h; show _ = _; kernel_rfl
      · replace h := ifT h (decT hb15); conv => lhs; whnf
        try (rw [hb15]; conv => lhs; whnf)
        try (rw [hb15]; conv => lhs; whnf)
        try (rw [hb15]; conv => lhs; whnf)
        try (rw [hb15]; conv => lhs; whnf)
        obtain rfl := Option.some.inj h; show _ = _; kernel_rfl
  · clear h
    rintro next_nx11 ⟨⟩ r h
    try dsimp only at h
    have hd_i10 : (decide ((a_0.length : Int) < (a_0.length : Int))) = false := decide_eq_false (by omega)
    conv => lhs; whnf
    rw [hd_i10]
    conv => lhs; whnf
    obtain rfl := Option.some.inj h; show _ = _; kernel_rfl

noncomputable def p_impl_ValidRecord (a_0 : Record) : Option Bool :=
  callK (p_impl_ValidKey a_0.Key) fun y1 =>
  if y1 = true then
    if (inR a_0.Seq 1 1000000) = true then
      if a_0.Kind = 1 then
        if (ByteArray.size a_0.Value : Int) ≤ 16 then
          some (a_0.End.toList == (⟨#[]⟩ : ByteArray).toList)
        else
          some false
      else
        if a_0.Kind = 2 then
          if (a_0.Value.toList == (⟨#[]⟩ : ByteArray).toList) = true then
            some (a_0.End.toList == (⟨#[]⟩ : ByteArray).toList)
          else
            some false
        else
          if a_0.Kind = 3 then
            if (a_0.Value.toList == (⟨#[]⟩ : ByteArray).toList) = true then
              callK (p_impl_ValidKey a_0.End) fun y10 =>
              if y10 = true then
                some (!((Op.bytesLess a_0.End.toList a_0.Key.toList) || (a_0.End.toList == a_0.Key.toList)))
              else
                some false
            else
              some false
          else
            some false
    else
      some false
  else
    some false

set_option maxHeartbeats 4000000 in
theorem L_impl_ValidRecord (a_0 : Record) {r : Bool} (h : p_impl_ValidRecord a_0 = some r) : callL E 97 [.agg [ST a_0.Key, IN a_0.Seq, IN a_0.Kind, ST a_0.Value, ST a_0.End]] ([] : Fo) = some (BO r, ([] : Fo)) := by
  unfold p_impl_ValidRecord at h
  refine callW (fu := Try.f97) rfl rfl rfl NN ?_
  intro lp cl hlp hcl
  conv => lhs; whnf
  obtain ⟨y1, h_y1, h⟩ := callK_inv h
  rw [cl_eq hcl (L_impl_ValidKey a_0.Key h_y1)]
  rotate_left
  · show _ = _; kernel_rfl
  · show _ = _; kernel_rfl
  conv => lhs; whnf
  cases hb2 : y1
  · replace h := ifF h (booF hb2); conv => lhs; whnf
    try (rw [hb2]; conv => lhs; whnf)
    try (rw [hb2]; conv => lhs; whnf)
    try (rw [hb2]; conv => lhs; whnf)
    try (rw [hb2]; conv => lhs; whnf)
    obtain rfl := Option.some.inj h; show _ = _; kernel_rfl
  · replace h := ifT h hb2
    try rw [hb2] at h
    conv => lhs; whnf
    try (rw [hb2]; conv => lhs; whnf)
    try (rw [hb2]; conv => lhs; whnf)
    rw [cl_eq hcl (L_impl_within a_0.Seq 1 1000000 (pl_within a_0.Seq 1 1000000))]
    rotate_left
    · show _ = _; kernel_rfl
    · show _ = _; kernel_rfl
    conv => lhs; whnf
    try (rw [hb2]; conv => lhs; whnf)
    try (rw [hb2]; conv => lhs; whnf)
    cases hb3 : (inR a_0.Seq 1 1000000)
    · replace h := ifF h (booF hb3); conv => lhs; whnf
      obtain rfl := Option.some.inj h; show _ = _; kernel_rfl
    · replace h := ifT h hb3; conv => lhs; whnf
      cases hb4 : (a_0.Kind == 1)
      · replace h := ifF h (beqF hb4); conv => lhs; whnf
        cases hb6 : (a_0.Kind == 2)
        · replace h := ifF h (beqF hb6); conv => lhs; whnf
          cases hb8 : (a_0.Kind == 3)
          · replace h := ifF h (beqF hb8); conv => lhs; whnf
            obtain rfl := Option.some.inj h; show _ = _; kernel_rfl
          · replace h := ifT h (beqT hb8); conv => lhs; whnf
            cases hb9 : (a_0.Value.toList == (⟨#[]⟩ : ByteArray).toList)
            · replace h := ifF h (booF hb9); conv => lhs; whnf
              try (rw [hb9]; conv => lhs; whnf)
              try (rw [hb9]; conv => lhs; whnf)
              try (rw [hb9]; conv => lhs; whnf)
              obtain rfl := Option.some.inj h; show _ = _; kernel_rfl
            · replace h := ifT h hb9; conv => lhs; whnf
              try (rw [hb9]; conv => lhs; whnf)
              try (rw [hb9]; conv => lhs; whnf)
              obtain ⟨y10, h_y10, h⟩ := callK_inv h
              rw [cl_eq hcl (L_impl_ValidKey a_0.End h_y10)]
              rotate_left
              · show _ = _; kernel_rfl
              · show _ = _; kernel_rfl
              conv => lhs; whnf
              try (rw [hb9]; conv => lhs; whnf)
              cases hb11 : y10
              · replace h := ifF h (booF hb11); conv => lhs; whnf
                try (rw [hb11]; conv => lhs; whnf)
                try (rw [hb11]; conv => lhs; whnf)
                try (rw [hb11]; conv => lhs; whnf)
                try (rw [hb11]; conv => lhs; whnf)
                try (rw [hb11]; conv => lhs; whnf)
                obtain rfl := Option.some.inj h; show _ = _; kernel_rfl
              · replace h := ifT h hb11; conv => lhs; whnf
                try (rw [hb11]; conv => lhs; whnf)
                try (rw [hb11]; conv => lhs; whnf)
                try (rw [hb11]; conv => lhs; whnf)
                try (rw [hb11]; conv => lhs; whnf)
                try (rw [hb11]; conv => lhs; whnf)
                obtain rfl := Option.some.inj h; show _ = _; kernel_rfl
        · replace h := ifT h (beqT hb6); conv => lhs; whnf
          cases hb7 : (a_0.Value.toList == (⟨#[]⟩ : ByteArray).toList)
          · replace h := ifF h (booF hb7); conv => lhs; whnf
            try (rw [hb7]; conv => lhs; whnf)
            try (rw [hb7]; conv => lhs; whnf)
            try (rw [hb7]; conv => lhs; whnf)
            obtain rfl := Option.some.inj h; show _ = _; kernel_rfl
          · replace h := ifT h hb7; conv => lhs; whnf
            try (rw [hb7]; conv => lhs; whnf)
            try (rw [hb7]; conv => lhs; whnf)
            try (rw [hb7]; conv => lhs; whnf)
            obtain rfl := Option.some.inj h; show _ = _; kernel_rfl
      · replace h := ifT h (beqT hb4); conv => lhs; whnf
        cases hb5 : (decide ((ByteArray.size a_0.Value : Int) ≤ 16))
        · replace h := ifF h (decF hb5); conv => lhs; whnf
          try (rw [hb5]; conv => lhs; whnf)
          try (rw [hb5]; conv => lhs; whnf)
          try (rw [hb5]; conv => lhs; whnf)
          obtain rfl := Option.some.inj h; show _ = _; kernel_rfl
        · replace h := ifT h (decT hb5); conv => lhs; whnf
          try (rw [hb5]; conv => lhs; whnf)
          try (rw [hb5]; conv => lhs; whnf)
          try (rw [hb5]; conv => lhs; whnf)
          obtain rfl := Option.some.inj h; show _ = _; kernel_rfl

noncomputable def p_impl_Record_affects (a_0 : Record) (a_1 : ByteArray) : Option Bool :=
  if a_0.Kind = 3 then
    if ((Op.bytesLess a_0.Key.toList a_1.toList) || (a_0.Key.toList == a_1.toList)) = true then
      some (Op.bytesLess a_1.toList a_0.End.toList)
    else
      some false
  else
    some (a_0.Key.toList == a_1.toList)

set_option maxHeartbeats 4000000 in
theorem L_impl_Record_affects (a_0 : Record) (a_1 : ByteArray) {r : Bool} (h : p_impl_Record_affects a_0 a_1 = some r) : callL E 201 [.agg [ST a_0.Key, IN a_0.Seq, IN a_0.Kind, ST a_0.Value, ST a_0.End], ST a_1] ([] : Fo) = some (BO r, ([] : Fo)) := by
  unfold p_impl_Record_affects at h
  refine callW (fu := Try.f201) rfl rfl rfl NN ?_
  intro lp cl hlp hcl
  conv => lhs; whnf
  cases hb1 : (a_0.Kind == 3)
  · replace h := ifF h (beqF hb1); conv => lhs; whnf
    obtain rfl := Option.some.inj h; show _ = _; kernel_rfl
  · replace h := ifT h (beqT hb1); conv => lhs; whnf
    cases hb2 : ((Op.bytesLess a_0.Key.toList a_1.toList) || (a_0.Key.toList == a_1.toList))
    · replace h := ifF h (booF hb2); conv => lhs; whnf
      try (rw [hb2]; conv => lhs; whnf)
      try (rw [hb2]; conv => lhs; whnf)
      try (rw [hb2]; conv => lhs; whnf)
      try (rw [hb2]; conv => lhs; whnf)
      obtain rfl := Option.some.inj h; show _ = _; kernel_rfl
    · replace h := ifT h hb2; conv => lhs; whnf
      try (rw [hb2]; conv => lhs; whnf)
      try (rw [hb2]; conv => lhs; whnf)
      try (rw [hb2]; conv => lhs; whnf)
      try (rw [hb2]; conv => lhs; whnf)
      obtain rfl := Option.some.inj h; show _ = _; kernel_rfl

noncomputable def p_impl_applied_c1 (a_0 : Pair) (a_1 : Record) : Option Bool :=
  callK (p_impl_Record_affects a_1 a_0.Key) fun y1 =>
  some y1

set_option maxHeartbeats 4000000 in
theorem L_impl_applied_c1 (a_0 : Pair) (a_1 : Record) {r : Bool} (h : p_impl_applied_c1 a_0 a_1 = some r) : callL E 200 [.agg [ST a_0.Key, ST a_0.Value], .bp 0 0] ([some (.box [ST a_1.Key, IN a_1.Seq, IN a_1.Kind, ST a_1.Value, ST a_1.End])] : Fo) = some (BO r, ([some (.box [ST a_1.Key, IN a_1.Seq, IN a_1.Kind, ST a_1.Value, ST a_1.End])] : Fo)) := by
  unfold p_impl_applied_c1 at h
  refine callW (fu := Try.f200) rfl rfl rfl NN ?_
  intro lp cl hlp hcl
  conv => lhs; whnf
  obtain ⟨y1, h_y1, h⟩ := callK_inv h
  rw [cl_eq hcl (L_impl_Record_affects a_1 a_0.Key h_y1)]
  rotate_left
  · show _ = _; kernel_rfl
  · show _ = _; kernel_rfl
  conv => lhs; whnf
  obtain rfl := Option.some.inj h; show _ = _; kernel_rfl

noncomputable def p_slices_IndexFunc_impl_applied_c1 (a_0 : List Pair) (a_1 : Record) : Option Int :=
  grd (a_0.length < 4611686018427387904) <|
  forK a_0 (fun (i6 : Nat) x8 (_ : Unit) (nx7 : Unit → Option _) =>
    callK (p_impl_applied_c1 x8 a_1) fun y9 =>
    if y9 = true then
      some (i6 : Int)
    else
      nx7 ()) () (fun (_ : Unit) =>
    some (-1))

set_option maxHeartbeats 4000000 in
theorem L_slices_IndexFunc_impl_applied_c1 (a_0 : List Pair) (a_1 : Record) {r : Int} (h : p_slices_IndexFunc_impl_applied_c1 a_0 a_1 = some r) : callL E 270 [.sl 0, .clo 200 [.bp 1 0]] ([some (.arr 37 2 (a_0.map rPair)), some (.box [ST a_1.Key, IN a_1.Seq, IN a_1.Kind, ST a_1.Value, ST a_1.End])] : Fo) = some (IN r, ([some (.arr 37 2 (a_0.map rPair)), some (.box [ST a_1.Key, IN a_1.Seq, IN a_1.Kind, ST a_1.Value, ST a_1.End])] : Fo)) := by
  unfold p_slices_IndexFunc_impl_applied_c1 at h
  refine callW (fu := Try.f270) rfl rfl rfl NN ?_
  intro lp cl hlp hcl
  conv => lhs; whnf
  try rw [len_of (l := a_0) (r := rPair)]
  obtain ⟨hl_i6, h⟩ := grd_inv h
  refine loop_for hlp (l := a_0) hl_i6 (fun (i6 : Nat) (_ : Unit) => ([.sl 0, .clo 200 [.bp 1 0], .dead, .dead, .dead, .dead, .dead, IN (a_0.length : Int), IN (i6 : Int)] ++ List.replicate 10 .dead : List V)) (fun (i6 : Nat) (_ : Unit) => ([some (.arr 37 2 (a_0.map rPair)), some (.box [ST a_1.Key, IN a_1.Seq, IN a_1.Kind, ST a_1.Value, ST a_1.End])] : Fo)) (fun (r : Int) => ((IN r : V), ([some (.arr 37 2 (a_0.map rPair)), some (.box [ST a_1.Key, IN a_1.Seq, IN a_1.Kind, ST a_1.Value, ST a_1.End])] : Fo))) ?_ ?_ () _ (fun kk => by kernel_rfl) h
  · clear h
    rintro next_nx7 nx7 i6 hi_i6 hnx7 ⟨⟩ r h
    try dsimp only at h
    have hn_i6 : i6 < 4611686018427387904 := by omega
    have hx_x8 := get_map rPair a_0 i6 hi_i6
    generalize a_0[i6] = x8 at h hx_x8
    have hd_i6 : (decide ((i6 : Int) < (a_0.length : Int))) = true := decide_eq_true (by omega)
    conv => lhs; whnf
    rw [hd_i6]
    conv => lhs; whnf
    try (rw [decide_eq_true hq_x8]; conv => lhs; whnf)
    rw [hx_x8]
    conv => lhs; whnf
    rw [hx_x8]
    conv => lhs; whnf
    obtain ⟨y9, h_y9, h⟩ := callK_inv h
    rw [cl_eq hcl (L_impl_applied_c1 x8 a_1 h_y9)]
    rotate_left
    · show _ = _; kernel_rfl
    · show _ = _; kernel_rfl
    conv => lhs; whnf
    cases hb10 : y9
    · replace h := ifF h (booF hb10); conv => lhs; whnf
      rw [wrap_nat i6 (by have := hn_i6; omega)]
      exact hnx7 _ _ _ _ (fun kk => by kernel_rfl) h
    · replace h := ifT h hb10; conv => lhs; whnf
      obtain rfl := Option.some.inj h; show _ = _; kernel_rfl
  · clear h
    rintro next_nx7 ⟨⟩ r h
    try dsimp only at h
    have hd_i6 : (decide ((a_0.length : Int) < (a_0.length : Int))) = false := decide_eq_false (by omega)
    conv => lhs; whnf
    rw [hd_i6]
    conv => lhs; whnf
    obtain rfl := Option.some.inj h; show _ = _; kernel_rfl

noncomputable def p_slices_DeleteFunc_impl_applied_c1 (a_0 : List Pair) (a_1 : Record) : Option (List Pair) :=
  callK (p_slices_IndexFunc_impl_applied_c1 a_0 a_1) fun y1 =>
  if y1 = (-1) then
    some a_0
  else
    iterK (fun ((v3, v4, v5) : (Int × Int × (List Pair))) (nx6 : (Int × Int × (List Pair)) → Option _) =>
      if v4 < (v5.length : Int) then
        getK v5 v4 fun x8 =>
        callK (p_impl_applied_c1 x8 a_1) fun y9 =>
        if y9 = true then
          nx6 (v3, (IntKind.i64.wrap (v4 + 1)), v5)
        else
          getK v5 v3 fun x11 =>
          nx6 ((IntKind.i64.wrap (v3 + 1)), (IntKind.i64.wrap (v4 + 1)), (v5.set (Int.toNat v3) x8))
      else
        grd (0 ≤ v3 ∧ v3 < (v5.length : Int)) <|
        grd (0 ≤ v3 ∧ v3 ≤ ((v5.take (Int.toNat v3) ++ List.replicate (v5.length - (Int.toNat v3)) (⟨(⟨#[]⟩ : ByteArray), (⟨#[]⟩ : ByteArray)⟩ : Pair)).length : Int)) <|
        some ((v5.take (Int.toNat v3) ++ List.replicate (v5.length - (Int.toNat v3)) (⟨(⟨#[]⟩ : ByteArray), (⟨#[]⟩ : ByteArray)⟩ : Pair)).take (Int.toNat v3))) NN (y1, (IntKind.i64.wrap (y1 + 1)), a_0)

set_option maxHeartbeats 4000000 in
theorem L_slices_DeleteFunc_impl_applied_c1 (a_0 : List Pair) (a_1 : Record) {r : (List Pair)} (h : p_slices_DeleteFunc_impl_applied_c1 a_0 a_1 = some r) : callL E 199 [.sl 0, .clo 200 [.bp 1 0]] ([some (.arr 37 2 (a_0.map rPair)), some (.box [ST a_1.Key, IN a_1.Seq, IN a_1.Kind, ST a_1.Value, ST a_1.End])] : Fo) = some (.sl 2, ([none, some (.box [ST a_1.Key, IN a_1.Seq, IN a_1.Kind, ST a_1.Value, ST a_1.End]), some (.arr 37 2 (r.map rPair))] : Fo)) := by
  unfold p_slices_DeleteFunc_impl_applied_c1 at h
  refine callW (fu := Try.f199) rfl rfl rfl NN ?_
  intro lp cl hlp hcl
  conv => lhs; whnf
  obtain ⟨y1, h_y1, h⟩ := callK_inv h
  rw [cl_eq hcl (L_slices_IndexFunc_impl_applied_c1 a_0 a_1 h_y1)]
  rotate_left
  · show _ = _; kernel_rfl
  · show _ = _; kernel_rfl
  conv => lhs; whnf
  cases hb2 : (y1 == (-1))
  · replace h := ifF h (beqF hb2); conv => lhs; whnf
    refine loop_iter hlp (fun ((v3, v4, v5) : (Int × Int × (List Pair))) => ([.sl 0, .clo 200 [.bp 1 0], .dead, .dead, .dead, IN v3, IN v4] ++ List.replicate 35 .dead : List V)) (fun ((v3, v4, v5) : (Int × Int × (List Pair))) => ([some (.arr 37 2 (v5.map rPair)), some (.box [ST a_1.Key, IN a_1.Seq, IN a_1.Kind, ST a_1.Value, ST a_1.End])] : Fo)) (fun (r : (List Pair)) => ((.sl 2 : V), ([none, some (.box [ST a_1.Key, IN a_1.Seq, IN a_1.Kind, ST a_1.Value, ST a_1.End]), some (.arr 37 2 (r.map rPair))] : Fo))) ?_ (y1, (IntKind.i64.wrap (y1 + 1)), a_0) _ (fun kk => by kernel_rfl) h
    clear h
    rintro next_nx6 nx6 hnx6 ⟨v3, v4, v5⟩ r h
    try dsimp only at h
    conv => lhs; whnf
    try rw [len_of (l := v5) (r := rPair)]
    cases hb7 : (decide (v4 < (v5.length : Int)))
    · replace h := ifF h (decF hb7); conv => lhs; whnf
      obtain ⟨hg12, h⟩ := grd_inv h
      try rw [List.length_map]
      try (rw [decide_eq_true hg12.1]; conv => lhs; whnf)
      try (rw [decide_eq_true hg12.2])
      conv => lhs; whnf
      first | (rw [wipe_of (r := rPair) (l := v5) (x := (⟨(⟨#[]⟩ : ByteArray), (⟨#[]⟩ : ByteArray)⟩ : Pair)) ?hh]; case hh => exact rfl) | skip
      obtain ⟨hg13, h⟩ := grd_inv h
      try rw [List.length_map]
      try (rw [decide_eq_true hg13.1]; conv => lhs; whnf)
      try (rw [decide_eq_true hg13.2])
      conv => lhs; whnf
      try rw [take_of (r := rPair) (l := (v5.take (Int.toNat v3) ++ List.replicate (v5.length - (Int.toNat v3)) (⟨(⟨#[]⟩ : ByteArray), (⟨#[]⟩ : ByteArray)⟩ : Pair)))]
      obtain rfl := Option.some.inj h; show _ = _; kernel_rfl
    · replace h := ifT h (decT hb7); conv => lhs; whnf
      obtain ⟨x8, hq_x8, hx_x8', h⟩ := getK_inv h
      have hx_x8 := get_of (r := rPair) hx_x8'
      try (rw [decide_eq_true hq_x8]; conv => lhs; whnf)
      rw [hx_x8]
      conv => lhs; whnf
      rw [hx_x8]
      conv => lhs; whnf
      obtain ⟨y9, h_y9, h⟩ := callK_inv h
      rw [cl_eq hcl (L_impl_applied_c1 x8 a_1 h_y9)]
      rotate_left
      · show _ = _; kernel_rfl
      · show _ = _; kernel_rfl
      conv => lhs; whnf
      cases hb10 : y9
      · replace h := ifF h (booF hb10); conv => lhs; whnf
        obtain ⟨x11, hq_x11, hx_x11', h⟩ := getK_inv h
        have hx_x11 := get_of (r := rPair) hx_x11'
        try (rw [decide_eq_true hq_x11]; conv => lhs; whnf)
        rw [hx_x11]
        conv => lhs; whnf
        rw [hx_x11]
        conv => lhs; whnf
        first | (rw [map_set_of (r := rPair) (l := v5) (x := x8) ?hh]; case hh => exact rfl) | skip
        exact hnx6 _ _ _ _ (fun kk => by kernel_rfl) h
      · replace h := ifT h hb10; conv => lhs; whnf
        exact hnx6 _ _ _ _ (fun kk => by kernel_rfl) h
  · replace h := ifT h (beqT hb2); conv => lhs; whnf
    obtain rfl := Option.some.inj h; show _ = _; kernel_rfl

noncomputable def p_impl_applied_c2 (a_0 : Pair) (a_1 : ByteArray) : Option Int :=
  some (cmpB a_0.Key a_1)

set_option maxHeartbeats 4000000 in
theorem L_impl_applied_c2 (a_0 : Pair) (a_1 : ByteArray) {r : Int} (h : p_impl_applied_c2 a_0 a_1 = some r) : callL E 203 [.agg [ST a_0.Key, ST a_0.Value], ST a_1] ([] : Fo) = some (IN r, ([] : Fo)) := by
  unfold p_impl_applied_c2 at h
  refine callW (fu := Try.f203) rfl rfl rfl NN ?_
  intro lp cl hlp hcl
  conv => lhs; whnf
  rw [cl_eq hcl (f_Compare a_0.Key a_1)]
  rotate_left
  · exact rfl
  · exact rfl
  conv => lhs; whnf
  obtain rfl := Option.some.inj h; show _ = _; kernel_rfl

noncomputable def p_slices_BinarySearchFunc_impl_applied_c2 (a_0 : ByteArray) (a_1 : List Pair) : Option (Int × Bool) :=
  iterK (fun ((v1, v2) : (Int × Int)) (nx3 : (Int × Int) → Option _) =>
    if v1 < v2 then
      getK a_1 (IntKind.i64.wrap (Int.fdiv (IntKind.u64.wrap (IntKind.i64.wrap (v1 + v2))) (2 ^ (min (Int.toNat 1) IntKind.u64.bits)))) fun x5 =>
      callK (p_impl_applied_c2 x5 a_0) fun y6 =>
      if y6 < 0 then
        nx3 ((IntKind.i64.wrap ((IntKind.i64.wrap (Int.fdiv (IntKind.u64.wrap (IntKind.i64.wrap (v1 + v2))) (2 ^ (min (Int.toNat 1) IntKind.u64.bits)))) + 1)), v2)
      else
        nx3 (v1, (IntKind.i64.wrap (Int.fdiv (IntKind.u64.wrap (IntKind.i64.wrap (v1 + v2))) (2 ^ (min (Int.toNat 1) IntKind.u64.bits)))))
    else
      if v1 < (a_1.length : Int) then
        getK a_1 v1 fun x9 =>
        callK (p_impl_applied_c2 x9 a_0) fun y10 =>
        some (v1, (y10 == 0))
      else
        some (v1, false)) NN (0, (a_1.length : Int))

set_option maxHeartbeats 4000000 in
theorem L_slices_BinarySearchFunc_impl_applied_c2 (a_0 : ByteArray) (a_1 : List Pair) {r : (Int × Bool)} (h : p_slices_BinarySearchFunc_impl_applied_c2 a_0 a_1 = some r) : callL E 202 [.sl 0, ST a_0, .clo 203 []] ([some (.arr 37 2 (a_1.map rPair))] : Fo) = some (.tup [IN r.1, BO r.2], ([some (.arr 37 2 (a_1.map rPair))] : Fo)) := by
  unfold p_slices_BinarySearchFunc_impl_applied_c2 at h
  refine callW (fu := Try.f202) rfl rfl rfl NN ?_
  intro lp cl hlp hcl
  conv => lhs; whnf
  try rw [len_of (l := a_1) (r := rPair)]
  refine loop_iter hlp (fun ((v1, v2) : (Int × Int)) => ([.sl 0, ST a_0, .clo 203 [], .dead, .dead, .dead, .dead, .dead, IN (a_1.length : Int), IN v1, IN v2] ++ List.replicate 38 .dead : List V)) (fun ((v1, v2) : (Int × Int)) => ([some (.arr 37 2 (a_1.map rPair))] : Fo)) (fun (r : (Int × Bool)) => ((.tup [IN r.1, BO r.2] : V), ([some (.arr 37 2 (a_1.map rPair))] : Fo))) ?_ (0, (a_1.length : Int)) _ (fun kk => by kernel_rfl) h
  clear h
  rintro next_nx3 nx3 hnx3 ⟨v1, v2⟩ r h
  try dsimp only at h
  conv => lhs; whnf
  cases hb4 : (decide (v1 < v2))
  · replace h := ifF h (decF hb4); conv => lhs; whnf
    cases hb8 : (decide (v1 < (a_1.length : Int)))
    · replace h := ifF h (decF hb8); conv => lhs; whnf
      try (rw [hb8]; conv => lhs; whnf)
      try (rw [hb8]; conv => lhs; whnf)
      try (rw [hb8]; conv => lhs; whnf)
      try (rw [hb8]; conv => lhs; whnf)
      try (rw [hb8]; conv => lhs; whnf)
      try (rw [hb8]; conv => lhs; whnf)
      try (rw [hb8]; conv => lhs; whnf)
      try (rw [hb8]; conv => lhs; whnf)
      obtain rfl := Option.some.inj h; show _ = _; kernel_rfl
    · replace h := ifT h (decT hb8); conv => lhs; whnf
      try (rw [hb8]; conv => lhs; whnf)
      try (rw [hb8]; conv => lhs; whnf)
      try (rw [hb8]; conv => lhs; whnf)
      obtain ⟨x9, hq_x9, hx_x9', h⟩ := getK_inv h
      have hx_x9 := get_of (r := rPair) hx_x9'
      try (rw [decide_eq_true hq_x9]; conv => lhs; whnf)
      rw [hx_x9]
      conv => lhs; whnf
      try (rw [hb8]; conv => lhs; whnf)
      rw [hx_x9]
      conv => lhs; whnf
      try (rw [hb8]; conv => lhs; whnf)
      try (rw [hb8]; conv => lhs; whnf)
      obtain ⟨y10, h_y10, h⟩ := callK_inv h
      rw [cl_eq hcl (L_impl_applied_c2 x9 a_0 h_y10)]
      rotate_left
      · show _ = _; kernel_rfl
      · show _ = _; kernel_rfl
      conv => lhs; whnf
      try (rw [hb8]; conv => lhs; whnf)
      try (rw [hb8]; conv => lhs; whnf)
      obtain rfl := Option.some.inj h; show _ = _; kernel_rfl
  · replace h := ifT h (decT hb4); conv => lhs; whnf
    obtain ⟨x5, hq_x5, hx_x5', h⟩ := getK_inv h
    have hx_x5 := get_of (r := rPair) hx_x5'
    try (rw [decide_eq_true hq_x5]; conv => lhs; whnf)
    rw [hx_x5]
    conv => lhs; whnf
    rw [hx_x5]
    conv => lhs; whnf
    obtain ⟨y6, h_y6, h⟩ := callK_inv h
    rw [cl_eq hcl (L_impl_applied_c2 x5 a_0 h_y6)]
    rotate_left
    · show _ = _; kernel_rfl
    · show _ = _; kernel_rfl
    conv => lhs; whnf
    cases hb7 : (decide (y6 < 0))
    · replace h := ifF h (decF hb7); conv => lhs; whnf
      exact hnx3 _ _ _ _ (fun kk => by kernel_rfl) h
    · replace h := ifT h (decT hb7); conv => lhs; whnf
      exact hnx3 _ _ _ _ (fun kk => by kernel_rfl) h

noncomputable def p_impl_applied (a_0 : List Pair) (a_1 : Record) : Option (List Pair) :=
  grd (appOk a_0.length 32 = true) <|
  callK (p_slices_DeleteFunc_impl_applied_c1 a_0 a_1) fun y1 =>
  if ¬ a_1.Kind = 1 then
    some y1
  else
    callK (p_slices_BinarySearchFunc_impl_applied_c2 a_1.Key y1) fun y3 =>
    grd (0 ≤ y3.1 ∧ y3.1 ≤ (y1.length : Int) ∧ 0 < ([(⟨a_1.Key, a_1.Value⟩ : Pair)] : List Pair).length) <|
    grd (appOk (y1.length + ([(⟨a_1.Key, a_1.Value⟩ : Pair)] : List Pair).length) 32 = true) <|
    some (y1.take (Int.toNat y3.1) ++ ([(⟨a_1.Key, a_1.Value⟩ : Pair)] : List Pair) ++ y1.drop (Int.toNat y3.1))

set_option maxHeartbeats 4000000 in
theorem L_impl_applied (a_0 : List Pair) (a_1 : Record) {r : (List Pair)} (h : p_impl_applied a_0 a_1 = some r) : callL E 98 [.d (.arr (a_0.map rPair)), .agg [ST a_1.Key, IN a_1.Seq, IN a_1.Kind, ST a_1.Value, ST a_1.End]] ([] : Fo) = some (.d (.arr (r.map rPair)), ([] : Fo)) := by
  unfold p_impl_applied at h
  refine callW (fu := Try.f98) rfl rfl rfl NN ?_
  intro lp cl hlp hcl
  conv => lhs; whnf
  obtain ⟨hg4, h⟩ := grd_inv h
  rw [cl_eq hcl (f_clone (rows := a_0.map rPair) rfl (app_eq hg4 (List.length_map ..) rfl) (allLen_map rPair _ rPair_len _) rfl)]
  rotate_left
  · exact rfl
  · exact rfl
  conv => lhs; whnf
  obtain ⟨y1, h_y1, h⟩ := callK_inv h
  rw [cl_eq hcl (L_slices_DeleteFunc_impl_applied_c1 a_0 a_1 h_y1)]
  rotate_left
  · show _ = _; kernel_rfl
  · show _ = _; kernel_rfl
  conv => lhs; whnf
  cases hb2 : (a_1.Kind != 1)
  · replace h := ifF h ((fun h => not_not_intro (bneF h)) hb2); conv => lhs; whnf
    obtain ⟨y3, h_y3, h⟩ := callK_inv h
    rw [cl_eq hcl (L_slices_BinarySearchFunc_impl_applied_c2 a_1.Key y1 h_y3)]
    rotate_left
    · show _ = _; kernel_rfl
    · show _ = _; kernel_rfl
    conv => lhs; whnf
    obtain ⟨hg5, h⟩ := grd_inv h; conv => lhs; whnf
    obtain ⟨hg6, h⟩ := grd_inv h
    rw [cl_eq hcl (f_insert (e1 := 37) (es := 2) (e2 := 37) (es2 := 2) (r := rPair) (l := y1) (l2 := ([(⟨a_1.Key, a_1.Value⟩ : Pair)] : List Pair)) (j := y3.1) rfl rfl rfl rfl hg5 hg6 rfl)]
    rotate_left
    · exact rfl
    · exact rfl
    conv => lhs; whnf
    obtain rfl := Option.some.inj h; show _ = _; kernel_rfl
  · replace h := ifT h (bneT hb2); conv => lhs; whnf
    obtain rfl := Option.some.inj h; show _ = _; kernel_rfl

noncomputable def p_impl_ApplyRecord (a_0 : List Pair) (a_1 : Record) : Option ((List Pair) × Int) :=
  callK (p_impl_pairsOk a_0) fun y1 =>
  if y1 = true then
    callK (p_impl_ValidRecord a_1) fun y3 =>
    if y3 = true then
      callK (p_impl_applied a_0 a_1) fun y5 =>
      some (y5, 0)
    else
      some (([] : List Pair), 1)
  else
    some (([] : List Pair), 1)

set_option maxHeartbeats 4000000 in
theorem L_impl_ApplyRecord (a_0 : List Pair) (a_1 : Record) {r : ((List Pair) × Int)} (h : p_impl_ApplyRecord a_0 a_1 = some r) : callL E 17 [.d (.arr (a_0.map rPair)), .agg [ST a_1.Key, IN a_1.Seq, IN a_1.Kind, ST a_1.Value, ST a_1.End]] ([] : Fo) = some (.tup [.d (.arr (r.1.map rPair)), IN r.2], ([] : Fo)) := by
  unfold p_impl_ApplyRecord at h
  refine callW (fu := Try.f17) rfl rfl rfl NN ?_
  intro lp cl hlp hcl
  conv => lhs; whnf
  obtain ⟨y1, h_y1, h⟩ := callK_inv h
  rw [cl_eq hcl (L_impl_pairsOk a_0 h_y1)]
  rotate_left
  · show _ = _; kernel_rfl
  · show _ = _; kernel_rfl
  conv => lhs; whnf
  cases hb2 : y1
  · replace h := ifF h (booF hb2); conv => lhs; whnf
    try (rw [hb2]; conv => lhs; whnf)
    try (rw [hb2]; conv => lhs; whnf)
    try (rw [hb2]; conv => lhs; whnf)
    obtain rfl := Option.some.inj h; show _ = _; kernel_rfl
  · replace h := ifT h hb2; conv => lhs; whnf
    try (rw [hb2]; conv => lhs; whnf)
    obtain ⟨y3, h_y3, h⟩ := callK_inv h
    rw [cl_eq hcl (L_impl_ValidRecord a_1 h_y3)]
    rotate_left
    · show _ = _; kernel_rfl
    · show _ = _; kernel_rfl
    conv => lhs; whnf
    try (rw [hb2]; conv => lhs; whnf)
    try (rw [hb2]; conv => lhs; whnf)
    cases hb4 : y3
    · replace h := ifF h (booF hb4); conv => lhs; whnf
      obtain rfl := Option.some.inj h; show _ = _; kernel_rfl
    · replace h := ifT h hb4; conv => lhs; whnf
      obtain ⟨y5, h_y5, h⟩ := callK_inv h
      rw [cl_eq hcl (L_impl_applied a_0 a_1 h_y5)]
      rotate_left
      · show _ = _; kernel_rfl
      · show _ = _; kernel_rfl
      conv => lhs; whnf
      obtain rfl := Option.some.inj h; show _ = _; kernel_rfl

noncomputable def p_cmp_isNaN (a_0 : Int) : Option Bool :=
  some (a_0 != a_0)

set_option maxHeartbeats 4000000 in
theorem L_cmp_isNaN (a_0 : Int) {r : Bool} (h : p_cmp_isNaN a_0 = some r) : callL E 287 [IN a_0] ([] : Fo) = some (BO r, ([] : Fo)) := by
  unfold p_cmp_isNaN at h
  refine callW (fu := Try.f287) rfl rfl rfl NN ?_
  intro lp cl hlp hcl
  conv => lhs; whnf
  obtain rfl := Option.some.inj h; show _ = _; kernel_rfl

noncomputable def p_cmp_Compare (a_0 : Int) (a_1 : Int) : Option Int :=
  callK (p_cmp_isNaN a_0) fun y1 =>
  callK (p_cmp_isNaN a_1) fun y2 =>
  if y1 = true then
    if y2 = true then
      some 0
    else
      some (-1)
  else
    if y2 = true then
      some 1
    else
      if a_0 < a_1 then
        some (-1)
      else
        if a_0 > a_1 then
          some 1
        else
          some 0

set_option maxHeartbeats 4000000 in
theorem L_cmp_Compare (a_0 : Int) (a_1 : Int) {r : Int} (h : p_cmp_Compare a_0 a_1 = some r) : callL E 245 [IN a_0, IN a_1] ([] : Fo) = some (IN r, ([] : Fo)) := by
  unfold p_cmp_Compare at h
  refine callW (fu := Try.f245) rfl rfl rfl NN ?_
  intro lp cl hlp hcl
  conv => lhs; whnf
  obtain ⟨y1, h_y1, h⟩ := callK_inv h
  rw [cl_eq hcl (L_cmp_isNaN a_0 h_y1)]
  rotate_left
  · show _ = _; kernel_rfl
  · show _ = _; kernel_rfl
  conv => lhs; whnf
  obtain ⟨y2, h_y2, h⟩ := callK_inv h
  rw [cl_eq hcl (L_cmp_isNaN a_1 h_y2)]
  rotate_left
  · show _ = _; kernel_rfl
  · show _ = _; kernel_rfl
  conv => lhs; whnf
  cases hb3 : y1
  · replace h := ifF h (booF hb3); conv => lhs; whnf
    cases hb5 : y2
    · replace h := ifF h (booF hb5); conv => lhs; whnf
      cases hb6 : (decide (a_0 < a_1))
      · replace h := ifF h (decF hb6); conv => lhs; whnf
        cases hb7 : (decide (a_0 > a_1))
        · replace h := ifF h (decF hb7); conv => lhs; whnf
          obtain rfl := Option.some.inj h; show _ = _; kernel_rfl
        · replace h := ifT h (decT hb7); conv => lhs; whnf
          obtain rfl := Option.some.inj h; show _ = _; kernel_rfl
      · replace h := ifT h (decT hb6); conv => lhs; whnf
        obtain rfl := Option.some.inj h; show _ = _; kernel_rfl
    · replace h := ifT h hb5; conv => lhs; whnf
      obtain rfl := Option.some.inj h; show _ = _; kernel_rfl
  · replace h := ifT h hb3; conv => lhs; whnf
    cases hb4 : y2
    · replace h := ifF h (booF hb4); conv => lhs; whnf
      obtain rfl := Option.some.inj h; show _ = _; kernel_rfl
    · replace h := ifT h hb4; conv => lhs; whnf
      obtain rfl := Option.some.inj h; show _ = _; kernel_rfl

noncomputable def p_cmp_Or (a_0 : List Int) : Option Int :=
  grd (a_0.length < 4611686018427387904) <|
  forK a_0 (fun (i5 : Nat) x7 (_ : Unit) (nx6 : Unit → Option _) =>
    if ¬ x7 = 0 then
      some x7
    else
      nx6 ()) () (fun (_ : Unit) =>
    some 0)

set_option maxHeartbeats 4000000 in
theorem L_cmp_Or (a_0 : List Int) {r : Int} (h : p_cmp_Or a_0 = some r) : callL E 244 [.d (.arr (a_0.map rI))] ([] : Fo) = some (IN r, ([] : Fo)) := by
  unfold p_cmp_Or at h
  refine callW (fu := Try.f244) rfl rfl rfl NN ?_
  intro lp cl hlp hcl
  conv => lhs; whnf
  try rw [len_of (l := a_0) (r := rI)]
  obtain ⟨hl_i5, h⟩ := grd_inv h
  refine loop_for hlp (l := a_0) hl_i5 (fun (i5 : Nat) (_ : Unit) => ([.dead, .dead, .dead, IN 0, .dead, .dead, .d (.arr (a_0.map rI)), IN (a_0.length : Int), IN (i5 : Int)] ++ List.replicate 9 .dead : List V)) (fun (i5 : Nat) (_ : Unit) => ([] : Fo)) (fun (r : Int) => ((IN r : V), ([] : Fo))) ?_ ?_ () _ (fun kk => by kernel_rfl) h
  · clear h
    rintro next_nx6 nx6 i5 hi_i5 hnx6 ⟨⟩ r h
    try dsimp only at h
    have hn_i5 : i5 < 4611686018427387904 := by omega
    have hx_x7 := get_map rI a_0 i5 hi_i5
    generalize a_0[i5] = x7 at h hx_x7
    have hd_i5 : (decide ((i5 : Int) < (a_0.length : Int))) = true := decide_eq_true (by omega)
    conv => lhs; whnf
    rw [hd_i5]
    conv => lhs; whnf
    try (rw [decide_eq_true hq_x7]; conv => lhs; whnf)
    rw [hx_x7]
    conv => lhs; whnf
    rw [hx_x7]
    conv => lhs; whnf
    cases hb8 : (x7 != 0)
    · replace h := ifF h ((fun h => not_not_intro (bneF h)) hb8); conv => lhs; whnf
      rw [wrap_nat i5 (by have := hn_i5; omega)]
      exact hnx6 _ _ _ _ (fun kk => by kernel_rfl) h
    · replace h := ifT h (bneT hb8); conv => lhs; whnf
      obtain rfl := Option.some.inj h; show _ = _; kernel_rfl
  · clear h
    rintro next_nx6 ⟨⟩ r h
    try dsimp only at h
    have hd_i5 : (decide ((a_0.length : Int) < (a_0.length : Int))) = false := decide_eq_false (by omega)
    conv => lhs; whnf
    rw [hd_i5]
    conv => lhs; whnf
    obtain rfl := Option.some.inj h; show _ = _; kernel_rfl

noncomputable def p_impl_compareRecords (a_0 : Record) (a_1 : Record) : Option Int :=
  callK (p_cmp_Compare a_1.Seq a_0.Seq) fun y1 =>
  callK (p_cmp_Compare a_0.Kind a_1.Kind) fun y2 =>
  callK (p_cmp_Or ([(cmpB a_0.Key a_1.Key), y1, y2, (cmpB a_0.Value a_1.Value), (cmpB a_0.End a_1.End)] : List Int)) fun y3 =>
  some y3

set_option maxHeartbeats 4000000 in
theorem L_impl_compareRecords (a_0 : Record) (a_1 : Record) {r : Int} (h : p_impl_compareRecords a_0 a_1 = some r) : callL E 155 [.agg [ST a_0.Key, IN a_0.Seq, IN a_0.Kind, ST a_0.Value, ST a_0.End], .agg [ST a_1.Key, IN a_1.Seq, IN a_1.Kind, ST a_1.Value, ST a_1.End]] ([] : Fo) = some (IN r, ([] : Fo)) := by
  unfold p_impl_compareRecords at h
  refine callW (fu := Try.f155) rfl rfl rfl NN ?_
  intro lp cl hlp hcl
  conv => lhs; whnf
  rw [cl_eq hcl (f_Compare a_0.Key a_1.Key)]
  rotate_left
  · exact rfl
  · exact rfl
  conv => lhs; whnf
  obtain ⟨y1, h_y1, h⟩ := callK_inv h
  rw [cl_eq hcl (L_cmp_Compare a_1.Seq a_0.Seq h_y1)]
  rotate_left
  · show _ = _; kernel_rfl
  · show _ = _; kernel_rfl
  conv => lhs; whnf
  obtain ⟨y2, h_y2, h⟩ := callK_inv h
  rw [cl_eq hcl (L_cmp_Compare a_0.Kind a_1.Kind h_y2)]
  rotate_left
  · show _ = _; kernel_rfl
  · show _ = _; kernel_rfl
  conv => lhs; whnf
  rw [cl_eq hcl (f_Compare a_0.Value a_1.Value)]
  rotate_left
  · exact rfl
  · exact rfl
  conv => lhs; whnf
  rw [cl_eq hcl (f_Compare a_0.End a_1.End)]
  rotate_left
  · exact rfl
  · exact rfl
  conv => lhs; whnf
  obtain ⟨y3, h_y3, h⟩ := callK_inv h
  rw [cl_eq hcl (L_cmp_Or ([(cmpB a_0.Key a_1.Key), y1, y2, (cmpB a_0.Value a_1.Value), (cmpB a_0.End a_1.End)] : List Int) h_y3)]
  rotate_left
  · show _ = _; kernel_rfl
  · show _ = _; kernel_rfl
  conv => lhs; whnf
  obtain rfl := Option.some.inj h; show _ = _; kernel_rfl

noncomputable def p_impl_LessRecord (a_0 : Record) (a_1 : Record) : Option Bool :=
  callK (p_impl_compareRecords a_0 a_1) fun y1 =>
  some (decide (y1 < 0))

set_option maxHeartbeats 4000000 in
theorem L_impl_LessRecord (a_0 : Record) (a_1 : Record) {r : Bool} (h : p_impl_LessRecord a_0 a_1 = some r) : callL E 58 [.agg [ST a_0.Key, IN a_0.Seq, IN a_0.Kind, ST a_0.Value, ST a_0.End], .agg [ST a_1.Key, IN a_1.Seq, IN a_1.Kind, ST a_1.Value, ST a_1.End]] ([] : Fo) = some (BO r, ([] : Fo)) := by
  unfold p_impl_LessRecord at h
  refine callW (fu := Try.f58) rfl rfl rfl NN ?_
  intro lp cl hlp hcl
  conv => lhs; whnf
  obtain ⟨y1, h_y1, h⟩ := callK_inv h
  rw [cl_eq hcl (L_impl_compareRecords a_0 a_1 h_y1)]
  rotate_left
  · show _ = _; kernel_rfl
  · show _ = _; kernel_rfl
  conv => lhs; whnf
  obtain rfl := Option.some.inj h; show _ = _; kernel_rfl

noncomputable def p_impl_ValidRun (a_0 : List Record) : Option Bool :=
  grd (a_0.length < 4611686018427387904) <|
  forK a_0 (fun (i12 : Nat) x15 (v13 : List (Int × Bool)) (nx14 : (List (Int × Bool)) → Option _) =>
    callK (p_impl_ValidRecord x15) fun y16 =>
    if y16 = true then
      if (mgetT v13 x15.Seq false) = true then
        some false
      else
        if (i12 : Int) > 0 then
          getK a_0 (IntKind.i64.wrap ((i12 : Int) - 1)) fun x20 =>
          callK (p_impl_LessRecord x20 x15) fun y21 =>
          if y21 = true then
            nx14 (mputT v13 x15.Seq true)
          else
            some false
        else
          nx14 (mputT v13 x15.Seq true)
    else
      some false) ([] : List (Int × Bool)) (fun (v13 : List (Int × Bool)) =>
    some true)

set_option maxHeartbeats 4000000 in
theorem L_impl_ValidRun (a_0 : List Record) {r : Bool} (h : p_impl_ValidRun a_0 = some r) : callL E 66 [.d (.arr (a_0.map rRecord))] ([] : Fo) = some (BO r, ([] : Fo)) := by
  unfold p_impl_ValidRun at h
  refine callW (fu := Try.f66) rfl rfl rfl NN ?_
  intro lp cl hlp hcl
  conv => lhs; whnf
  try rw [len_of (l := a_0) (r := rRecord)]
  obtain ⟨hl_i12, h⟩ := grd_inv h
  refine loop_for hlp (l := a_0) hl_i12 (fun (i12 : Nat) (v13 : List (Int × Bool)) => ([.d (.arr (a_0.map rRecord)), .dead, .dead, .mp 0, .dead, .dead, .dead, .d (.arr (a_0.map rRecord)), IN (a_0.length : Int), IN (i12 : Int)] ++ List.replicate 31 .dead : List V)) (fun (i12 : Nat) (v13 : List (Int × Bool)) => ([some (.mp .i64 (mE dB v13))] : Fo)) (fun (r : Bool) => ((BO r : V), ([] : Fo))) ?_ ?_ ([] : List (Int × Bool)) _ (fun kk => by kernel_rfl) h
  · clear h
    rintro next_nx14 nx14 i12 hi_i12 hnx14 v13 r h
    try dsimp only at h
    have hn_i12 : i12 < 4611686018427387904 := by omega
    have hx_x15 := get_map rRecord a_0 i12 hi_i12
    generalize a_0[i12] = x15 at h hx_x15
    have hd_i12 : (decide ((i12 : Int) < (a_0.length : Int))) = true := decide_eq_true (by omega)
    conv => lhs; whnf
    rw [hd_i12]
    conv => lhs; whnf
    try (rw [decide_eq_true hq_x15]; conv => lhs; whnf)
    rw [hx_x15]
    conv => lhs; whnf
    rw [hx_x15]
    conv => lhs; whnf
    obtain ⟨y16, h_y16, h⟩ := callK_inv h
    rw [cl_eq hcl (L_impl_ValidRecord x15 h_y16)]
    rotate_left
    · show _ = _; kernel_rfl
    · show _ = _; kernel_rfl
    conv => lhs; whnf
    cases hb17 : y16
    · replace h := ifF h (booF hb17); conv => lhs; whnf
      try (rw [hb17]; conv => lhs; whnf)
      try (rw [hb17]; conv => lhs; whnf)
      try (rw [hb17]; conv => lhs; whnf)
      try (rw [hb17]; conv => lhs; whnf)
      obtain rfl := Option.some.inj h; show _ = _; kernel_rfl
    · replace h := ifT h hb17; conv => lhs; whnf
      try (rw [hb17]; conv => lhs; whnf)
      try (rw [hb17]; conv => lhs; whnf)
      try (rw [hb17]; conv => lhs; whnf)
      try rw [mgetD_of (f := dB) (l := v13) (n := x15.Seq) (z := false)]
      try (rw [hb17]; conv => lhs; whnf)
      cases hb18 : (mgetT v13 x15.Seq false)
      · replace h := ifF h (booF hb18); conv => lhs; whnf
        try (rw [hb18]; conv => lhs; whnf)
        try (rw [hb18]; conv => lhs; whnf)
        cases hb19 : (decide ((i12 : Int) > 0))
        · replace h := ifF h (decF hb19); conv => lhs; whnf
          try (rw [hb19]; conv => lhs; whnf)
          try (rw [hb19]; conv => lhs; whnf)
          try (rw [hb19]; conv => lhs; whnf)
          try (rw [hb19]; conv => lhs; whnf)
          try (rw [hb19]; conv => lhs; whnf)
          try (rw [hb19]; conv => lhs; whnf)
          try (rw [hb19]; conv => lhs; whnf)
          try (rw [hb18]; conv => lhs; whnf)
          try (rw [hb19]; conv => lhs; whnf)
          try (rw [hb18]; conv => lhs; whnf)
          try rw [mput_of (f := dB) (l := v13) (n := x15.Seq) (x := true) (y := _) rfl]
          rw [wrap_nat i12 (by have := hn_i12; omega)]
          exact hnx14 _ _ _ _ (fun kk => by kernel_rfl) h
        · replace h := ifT h (decT hb19); conv => lhs; whnf
          try (rw [hb19]; conv => lhs; whnf)
          try (rw [hb19]; conv => lhs; whnf)
          try (rw [hb19]; conv => lhs; whnf)
          obtain ⟨x20, hq_x20, hx_x20', h⟩ := getK_inv h
          have hx_x20 := get_of (r := rRecord) hx_x20'
          try (rw [decide_eq_true hq_x20]; conv => lhs; whnf)
          rw [hx_x20]
          conv => lhs; whnf
          try (rw [hb19]; conv => lhs; whnf)
          rw [hx_x20]
          conv => lhs; whnf
          try (rw [hb19]; conv => lhs; whnf)
          try (rw [hb19]; conv => lhs; whnf)
          obtain ⟨y21, h_y21, h⟩ := callK_inv h
          rw [cl_eq hcl (L_impl_LessRecord x20 x15 h_y21)]
          rotate_left
          · show _ = _; kernel_rfl
          · show _ = _; kernel_rfl
          conv => lhs; whnf
          try (rw [hb19]; conv => lhs; whnf)
          try (rw [hb18]; conv => lhs; whnf)
          try (rw [hb19]; conv => lhs; whnf)
          try (rw [hb18]; conv => lhs; whnf)
          cases hb22 : y21
          · replace h := ifF h (booF hb22); conv => lhs; whnf
            obtain rfl := Option.some.inj h; show _ = _; kernel_rfl
          · replace h := ifT h hb22; conv => lhs; whnf
            try rw [mput_of (f := dB) (l := v13) (n := x15.Seq) (x := true) (y := _) rfl]
            rw [wrap_nat i12 (by have := hn_i12; omega)]
            exact hnx14 _ _ _ _ (fun kk => by kernel_rfl) h
      · replace h := ifT h hb18; conv => lhs; whnf
        try (rw [hb18]; conv => lhs; whnf)
        try (rw [hb18]; conv => lhs; whnf)
        try (rw [hb18]; conv => lhs; whnf)
        try (rw [hb18]; conv => lhs; whnf)
        obtain rfl := Option.some.inj h; show _ = _; kernel_rfl
  · clear h
    rintro next_nx14 v13 r h
    try dsimp only at h
    have hd_i12 : (decide ((a_0.length : Int) < (a_0.length : Int))) = false := decide_eq_false (by omega)
    conv => lhs; whnf
    rw [hd_i12]
    conv => lhs; whnf
    obtain rfl := Option.some.inj h; show _ = _; kernel_rfl

noncomputable def p_impl_boundsOk (a_0 : ByteArray) (a_1 : ByteArray) : Option Bool :=
  if (a_0.toList == (⟨#[]⟩ : ByteArray).toList) = true then
    if (a_1.toList == (⟨#[]⟩ : ByteArray).toList) = true then
      some true
    else
      callK (p_impl_ValidKey a_1) fun y3 =>
      if y3 = true then
        some (Op.bytesLess a_0.toList a_1.toList)
      else
        some false
  else
    callK (p_impl_ValidKey a_0) fun y5 =>
    if y5 = true then
      if (a_1.toList == (⟨#[]⟩ : ByteArray).toList) = true then
        some true
      else
        callK (p_impl_ValidKey a_1) fun y8 =>
        if y8 = true then
          some (Op.bytesLess a_0.toList a_1.toList)
        else
          some false
    else
      some false

set_option maxHeartbeats 4000000 in
theorem L_impl_boundsOk (a_0 : ByteArray) (a_1 : ByteArray) {r : Bool} (h : p_impl_boundsOk a_0 a_1 = some r) : callL E 102 [ST a_0, ST a_1] ([] : Fo) = some (BO r, ([] : Fo)) := by
  unfold p_impl_boundsOk at h
  refine callW (fu := Try.f102) rfl rfl rfl NN ?_
  intro lp cl hlp hcl
  conv => lhs; whnf
  cases hb1 : (a_0.toList == (⟨#[]⟩ : ByteArray).toList)
  · replace h := ifF h (booF hb1); conv => lhs; whnf
    try (rw [hb1]; conv => lhs; whnf)
    obtain ⟨y5, h_y5, h⟩ := callK_inv h
    rw [cl_eq hcl (L_impl_ValidKey a_0 h_y5)]
    rotate_left
    · show _ = _; kernel_rfl
    · show _ = _; kernel_rfl
    conv => lhs; whnf
    try (rw [hb1]; conv => lhs; whnf)
    cases hb6 : y5
    · replace h := ifF h (booF hb6); conv => lhs; whnf
      try (rw [hb6]; conv => lhs; whnf)
      try (rw [hb6]; conv => lhs; whnf)
      try (rw [hb6]; conv => lhs; whnf)
      try (rw [hb6]; conv => lhs; whnf)
      obtain rfl := Option.some.inj h; show _ = _; kernel_rfl
    · replace h := ifT h hb6; conv => lhs; whnf
      try (rw [hb6]; conv => lhs; whnf)
      try (rw [hb6]; conv => lhs; whnf)
      cases hb7 : (a_1.toList == (⟨#[]⟩ : ByteArray).toList)
      · replace h := ifF h (booF hb7); conv => lhs; whnf
        try (rw [hb7]; conv => lhs; whnf)
        obtain ⟨y8, h_y8, h⟩ := callK_inv h
        rw [cl_eq hcl (L_impl_ValidKey a_1 h_y8)]
        rotate_left
        · show _ = _; kernel_rfl
        · show _ = _; kernel_rfl
        conv => lhs; whnf
        try (rw [hb7]; conv => lhs; whnf)
        cases hb9 : y8
        · replace h := ifF h (booF hb9); conv => lhs; whnf
          try (rw [hb9]; conv => lhs; whnf)
          try (rw [hb9]; conv => lhs; whnf)
          try (rw [hb7]; conv => lhs; whnf)
          try (rw [hb9]; conv => lhs; whnf)
          try (rw [hb6]; conv => lhs; whnf)
          try (rw [hb7]; conv => lhs; whnf)
          try (rw [hb6]; conv => lhs; whnf)
          obtain rfl := Option.some.inj h; show _ = _; kernel_rfl
        · replace h := ifT h hb9; conv => lhs; whnf
          try (rw [hb9]; conv => lhs; whnf)
          try (rw [hb9]; conv => lhs; whnf)
          try (rw [hb7]; conv => lhs; whnf)
          try (rw [hb9]; conv => lhs; whnf)
          try (rw [hb6]; conv => lhs; whnf)
          try (rw [hb7]; conv => lhs; whnf)
          try (rw [hb6]; conv => lhs; whnf)
          obtain rfl := Option.some.inj h; show _ = _; kernel_rfl
      · replace h := ifT h hb7; conv => lhs; whnf
        try (rw [hb7]; conv => lhs; whnf)
        try (rw [hb7]; conv => lhs; whnf)
        try (rw [hb7]; conv => lhs; whnf)
        try (rw [hb6]; conv => lhs; whnf)
        try (rw [hb7]; conv => lhs; whnf)
        try (rw [hb6]; conv => lhs; whnf)
        obtain rfl := Option.some.inj h; show _ = _; kernel_rfl
  · replace h := ifT h hb1; conv => lhs; whnf
    try (rw [hb1]; conv => lhs; whnf)
    try (rw [hb1]; conv => lhs; whnf)
    cases hb2 : (a_1.toList == (⟨#[]⟩ : ByteArray).toList)
    · replace h := ifF h (booF hb2); conv => lhs; whnf
      try (rw [hb2]; conv => lhs; whnf)
      obtain ⟨y3, h_y3, h⟩ := callK_inv h
      rw [cl_eq hcl (L_impl_ValidKey a_1 h_y3)]
      rotate_left
      · show _ = _; kernel_rfl
      · show _ = _; kernel_rfl
      conv => lhs; whnf
      try (rw [hb2]; conv => lhs; whnf)
      cases hb4 : y3
      · replace h := ifF h (booF hb4); conv => lhs; whnf
        try (rw [hb4]; conv => lhs; whnf)
        try (rw [hb4]; conv => lhs; whnf)
        try (rw [hb2]; conv => lhs; whnf)
        try (rw [hb4]; conv => lhs; whnf)
        try (rw [hb2]; conv => lhs; whnf)
        obtain rfl := Option.some.inj h; show _ = _; kernel_rfl
      · replace h := ifT h hb4; conv => lhs; whnf
        try (rw [hb4]; conv => lhs; whnf)
        try (rw [hb4]; conv => lhs; whnf)
        try (rw [hb2]; conv => lhs; whnf)
        try (rw [hb4]; conv => lhs; whnf)
        try (rw [hb2]; conv => lhs; whnf)
        obtain rfl := Option.some.inj h; show _ = _; kernel_rfl
    · replace h := ifT h hb2; conv => lhs; whnf
      try (rw [hb2]; conv => lhs; whnf)
      try (rw [hb2]; conv => lhs; whnf)
      try (rw [hb2]; conv => lhs; whnf)
      try (rw [hb2]; conv => lhs; whnf)
      obtain rfl := Option.some.inj h; show _ = _; kernel_rfl

noncomputable def p_impl_isRange (a_0 : Record) : Option Bool :=
  some (a_0.Kind == 3)

set_option maxHeartbeats 4000000 in
theorem L_impl_isRange (a_0 : Record) {r : Bool} (h : p_impl_isRange a_0 = some r) : callL E 251 [.agg [ST a_0.Key, IN a_0.Seq, IN a_0.Kind, ST a_0.Value, ST a_0.End]] ([] : Fo) = some (BO r, ([] : Fo)) := by
  unfold p_impl_isRange at h
  refine callW (fu := Try.f251) rfl rfl rfl NN ?_
  intro lp cl hlp hcl
  conv => lhs; whnf
  obtain rfl := Option.some.inj h; show _ = _; kernel_rfl

noncomputable def p_slices_IndexFunc_impl_isRange (a_0 : List Record) : Option Int :=
  grd (a_0.length < 4611686018427387904) <|
  forK a_0 (fun (i6 : Nat) x8 (_ : Unit) (nx7 : Unit → Option _) =>
    callK (p_impl_isRange x8) fun y9 =>
    if y9 = true then
      some (i6 : Int)
    else
      nx7 ()) () (fun (_ : Unit) =>
    some (-1))

set_option maxHeartbeats 4000000 in
theorem L_slices_IndexFunc_impl_isRange (a_0 : List Record) {r : Int} (h : p_slices_IndexFunc_impl_isRange a_0 = some r) : callL E 247 [.sl 0, .clo 251 []] ([some (.arr 28 5 (a_0.map rRecord))] : Fo) = some (IN r, ([some (.arr 28 5 (a_0.map rRecord))] : Fo)) := by
  unfold p_slices_IndexFunc_impl_isRange at h
  refine callW (fu := Try.f247) rfl rfl rfl NN ?_
  intro lp cl hlp hcl
  conv => lhs; whnf
  try rw [len_of (l := a_0) (r := rRecord)]
  obtain ⟨hl_i6, h⟩ := grd_inv h
  refine loop_for hlp (l := a_0) hl_i6 (fun (i6 : Nat) (_ : Unit) => ([.sl 0, .clo 251 [], .dead, .dead, .dead, .dead, .dead, IN (a_0.length : Int), IN (i6 : Int)] ++ List.replicate 10 .dead : List V)) (fun (i6 : Nat) (_ : Unit) => ([some (.arr 28 5 (a_0.map rRecord))] : Fo)) (fun (r : Int) => ((IN r : V), ([some (.arr 28 5 (a_0.map rRecord))] : Fo))) ?_ ?_ () _ (fun kk => by kernel_rfl) h
  · clear h
    rintro next_nx7 nx7 i6 hi_i6 hnx7 ⟨⟩ r h
    try dsimp only at h
    have hn_i6 : i6 < 4611686018427387904 := by omega
    have hx_x8 := get_map rRecord a_0 i6 hi_i6
    generalize a_0[i6] = x8 at h hx_x8
    have hd_i6 : (decide ((i6 : Int) < (a_0.length : Int))) = true := decide_eq_true (by omega)
    conv => lhs; whnf
    rw [hd_i6]
    conv => lhs; whnf
    try (rw [decide_eq_true hq_x8]; conv => lhs; whnf)
    rw [hx_x8]
    conv => lhs; whnf
    rw [hx_x8]
    conv => lhs; whnf
    obtain ⟨y9, h_y9, h⟩ := callK_inv h
    rw [cl_eq hcl (L_impl_isRange x8 h_y9)]
    rotate_left
    · show _ = _; kernel_rfl
    · show _ = _; kernel_rfl
    conv => lhs; whnf
    cases hb10 : y9
    · replace h := ifF h (booF hb10); conv => lhs; whnf
      rw [wrap_nat i6 (by have := hn_i6; omega)]
      exact hnx7 _ _ _ _ (fun kk => by kernel_rfl) h
    · replace h := ifT h hb10; conv => lhs; whnf
      obtain rfl := Option.some.inj h; show _ = _; kernel_rfl
  · clear h
    rintro next_nx7 ⟨⟩ r h
    try dsimp only at h
    have hd_i6 : (decide ((a_0.length : Int) < (a_0.length : Int))) = false := decide_eq_false (by omega)
    conv => lhs; whnf
    rw [hd_i6]
    conv => lhs; whnf
    obtain rfl := Option.some.inj h; show _ = _; kernel_rfl

noncomputable def p_slices_DeleteFunc_impl_isRange (a_0 : List Record) : Option (List Record) :=
  callK (p_slices_IndexFunc_impl_isRange a_0) fun y1 =>
  if y1 = (-1) then
    some a_0
  else
    iterK (fun ((v3, v4, v5) : (Int × Int × (List Record))) (nx6 : (Int × Int × (List Record)) → Option _) =>
      if v4 < (v5.length : Int) then
        getK v5 v4 fun x8 =>
        callK (p_impl_isRange x8) fun y9 =>
        if y9 = true then
          nx6 (v3, (IntKind.i64.wrap (v4 + 1)), v5)
        else
          getK v5 v3 fun x11 =>
          nx6 ((IntKind.i64.wrap (v3 + 1)), (IntKind.i64.wrap (v4 + 1)), (v5.set (Int.toNat v3) x8))
      else
        grd (0 ≤ v3 ∧ v3 < (v5.length : Int)) <|
        grd (0 ≤ v3 ∧ v3 ≤ ((v5.take (Int.toNat v3) ++ List.replicate (v5.length - (Int.toNat v3)) (⟨(⟨#[]⟩ : ByteArray), 0, 0, (⟨#[]⟩ : ByteArray), (⟨#[]⟩ : ByteArray)⟩ : Record)).length : Int)) <|
        some ((v5.take (Int.toNat v3) ++ List.replicate (v5.length - (Int.toNat v3)) (⟨(⟨#[]⟩ : ByteArray), 0, 0, (⟨#[]⟩ : ByteArray), (⟨#[]⟩ : ByteArray)⟩ : Record)).take (Int.toNat v3))) NN (y1, (IntKind.i64.wrap (y1 + 1)), a_0)

set_option maxHeartbeats 4000000 in
theorem L_slices_DeleteFunc_impl_isRange (a_0 : List Record) {r : (List Record)} (h : p_slices_DeleteFunc_impl_isRange a_0 = some r) : callL E 157 [.sl 0, .clo 251 []] ([some (.arr 28 5 (a_0.map rRecord))] : Fo) = some (.sl 1, ([none, some (.arr 28 5 (r.map rRecord))] : Fo)) := by
  unfold p_slices_DeleteFunc_impl_isRange at h
  refine callW (fu := Try.f157) rfl rfl rfl NN ?_
  intro lp cl hlp hcl
  conv => lhs; whnf
  obtain ⟨y1, h_y1, h⟩ := callK_inv h
  rw [cl_eq hcl (L_slices_IndexFunc_impl_isRange a_0 h_y1)]
  rotate_left
  · show _ = _; kernel_rfl
  · show _ = _; kernel_rfl
  conv => lhs; whnf
  cases hb2 : (y1 == (-1))
  · replace h := ifF h (beqF hb2); conv => lhs; whnf
    refine loop_iter hlp (fun ((v3, v4, v5) : (Int × Int × (List Record))) => ([.sl 0, .clo 251 [], .dead, .dead, .dead, IN v3, IN v4] ++ List.replicate 35 .dead : List V)) (fun ((v3, v4, v5) : (Int × Int × (List Record))) => ([some (.arr 28 5 (v5.map rRecord))] : Fo)) (fun (r : (List Record)) => ((.sl 1 : V), ([none, some (.arr 28 5 (r.map rRecord))] : Fo))) ?_ (y1, (IntKind.i64.wrap (y1 + 1)), a_0) _ (fun kk => by kernel_rfl) h
    clear h
    rintro next_nx6 nx6 hnx6 ⟨v3, v4, v5⟩ r h
    try dsimp only at h
    conv => lhs; whnf
    try rw [len_of (l := v5) (r := rRecord)]
    cases hb7 : (decide (v4 < (v5.length : Int)))
    · replace h := ifF h (decF hb7); conv => lhs; whnf
      obtain ⟨hg12, h⟩ := grd_inv h
      try rw [List.length_map]
      try (rw [decide_eq_true hg12.1]; conv => lhs; whnf)
      try (rw [decide_eq_true hg12.2])
      conv => lhs; whnf
      first | (rw [wipe_of (r := rRecord) (l := v5) (x := (⟨(⟨#[]⟩ : ByteArray), 0, 0, (⟨#[]⟩ : ByteArray), (⟨#[]⟩ : ByteArray)⟩ : Record)) ?hh]; case hh => exact rfl) | skip
      obtain ⟨hg13, h⟩ := grd_inv h
      try rw [List.length_map]
      try (rw [decide_eq_true hg13.1]; conv => lhs; whnf)
      try (rw [decide_eq_true hg13.2])
      conv => lhs; whnf
      try rw [take_of (r := rRecord) (l := (v5.take (Int.toNat v3) ++ List.replicate (v5.length - (Int.toNat v3)) (⟨(⟨#[]⟩ : ByteArray), 0, 0, (⟨#[]⟩ : ByteArray), (⟨#[]⟩ : ByteArray)⟩ : Record)))]
      obtain rfl := Option.some.inj h; show _ = _; kernel_rfl
    · replace h := ifT h (decT hb7); conv => lhs; whnf
      obtain ⟨x8, hq_x8, hx_x8', h⟩ := getK_inv h
      have hx_x8 := get_of (r := rRecord) hx_x8'
      try (rw [decide_eq_true hq_x8]; conv => lhs; whnf)
      rw [hx_x8]
      conv => lhs; whnf
      rw [hx_x8]
      conv => lhs; whnf
      obtain ⟨y9, h_y9, h⟩ := callK_inv h
      rw [cl_eq hcl (L_impl_isRange x8 h_y9)]
      rotate_left
      · show _ = _; kernel_rfl
      · show _ = _; kernel_rfl
      conv => lhs; whnf
      cases hb10 : y9
      · replace h := ifF h (booF hb10); conv => lhs; whnf
        obtain ⟨x11, hq_x11, hx_x11', h⟩ := getK_inv h
        have hx_x11 := get_of (r := rRecord) hx_x11'
        try (rw [decide_eq_true hq_x11]; conv => lhs; whnf)
        rw [hx_x11]
        conv => lhs; whnf
        rw [hx_x11]
        conv => lhs; whnf
        first | (rw [map_set_of (r := rRecord) (l := v5) (x := x8) ?hh]; case hh => exact rfl) | skip
        exact hnx6 _ _ _ _ (fun kk => by kernel_rfl) h
      · replace h := ifT h hb10; conv => lhs; whnf
        exact hnx6 _ _ _ _ (fun kk => by kernel_rfl) h
  · replace h := ifT h (beqT hb2); conv => lhs; whnf
    obtain rfl := Option.some.inj h; show _ = _; kernel_rfl

noncomputable def p_impl_parted_c1 (a_0 : Record) : Option Bool :=
  callK (p_impl_isRange a_0) fun y1 =>
  some (!y1)

set_option maxHeartbeats 4000000 in
theorem L_impl_parted_c1 (a_0 : Record) {r : Bool} (h : p_impl_parted_c1 a_0 = some r) : callL E 275 [.agg [ST a_0.Key, IN a_0.Seq, IN a_0.Kind, ST a_0.Value, ST a_0.End]] ([] : Fo) = some (BO r, ([] : Fo)) := by
  unfold p_impl_parted_c1 at h
  refine callW (fu := Try.f275) rfl rfl rfl NN ?_
  intro lp cl hlp hcl
  conv => lhs; whnf
  obtain ⟨y1, h_y1, h⟩ := callK_inv h
  rw [cl_eq hcl (L_impl_isRange a_0 h_y1)]
  rotate_left
  · show _ = _; kernel_rfl
  · show _ = _; kernel_rfl
  conv => lhs; whnf
  obtain rfl := Option.some.inj h; show _ = _; kernel_rfl

noncomputable def p_slices_IndexFunc_impl_parted_c1 (a_0 : List Record) : Option Int :=
  grd (a_0.length < 4611686018427387904) <|
  forK a_0 (fun (i6 : Nat) x8 (_ : Unit) (nx7 : Unit → Option _) =>
    callK (p_impl_parted_c1 x8) fun y9 =>
    if y9 = true then
      some (i6 : Int)
    else
      nx7 ()) () (fun (_ : Unit) =>
    some (-1))

set_option maxHeartbeats 4000000 in
theorem L_slices_IndexFunc_impl_parted_c1 (a_0 : List Record) {r : Int} (h : p_slices_IndexFunc_impl_parted_c1 a_0 = some r) : callL E 247 [.sl 0, .clo 275 []] ([some (.arr 28 5 (a_0.map rRecord))] : Fo) = some (IN r, ([some (.arr 28 5 (a_0.map rRecord))] : Fo)) := by
  unfold p_slices_IndexFunc_impl_parted_c1 at h
  refine callW (fu := Try.f247) rfl rfl rfl NN ?_
  intro lp cl hlp hcl
  conv => lhs; whnf
  try rw [len_of (l := a_0) (r := rRecord)]
  obtain ⟨hl_i6, h⟩ := grd_inv h
  refine loop_for hlp (l := a_0) hl_i6 (fun (i6 : Nat) (_ : Unit) => ([.sl 0, .clo 275 [], .dead, .dead, .dead, .dead, .dead, IN (a_0.length : Int), IN (i6 : Int)] ++ List.replicate 10 .dead : List V)) (fun (i6 : Nat) (_ : Unit) => ([some (.arr 28 5 (a_0.map rRecord))] : Fo)) (fun (r : Int) => ((IN r : V), ([some (.arr 28 5 (a_0.map rRecord))] : Fo))) ?_ ?_ () _ (fun kk => by kernel_rfl) h
  · clear h
    rintro next_nx7 nx7 i6 hi_i6 hnx7 ⟨⟩ r h
    try dsimp only at h
    have hn_i6 : i6 < 4611686018427387904 := by omega
    have hx_x8 := get_map rRecord a_0 i6 hi_i6
    generalize a_0[i6] = x8 at h hx_x8
    have hd_i6 : (decide ((i6 : Int) < (a_0.length : Int))) = true := decide_eq_true (by omega)
    conv => lhs; whnf
    rw [hd_i6]
    conv => lhs; whnf
    try (rw [decide_eq_true hq_x8]; conv => lhs; whnf)
    rw [hx_x8]
    conv => lhs; whnf
    rw [hx_x8]
    conv => lhs; whnf
    obtain ⟨y9, h_y9, h⟩ := callK_inv h
    rw [cl_eq hcl (L_impl_parted_c1 x8 h_y9)]
    rotate_left
    · show _ = _; kernel_rfl
    · show _ = _; kernel_rfl
    conv => lhs; whnf
    cases hb10 : y9
    · replace h := ifF h (booF hb10); conv => lhs; whnf
      rw [wrap_nat i6 (by have := hn_i6; omega)]
      exact hnx7 _ _ _ _ (fun kk => by kernel_rfl) h
    · replace h := ifT h hb10; conv => lhs; whnf
      obtain rfl := Option.some.inj h; show _ = _; kernel_rfl
  · clear h
    rintro next_nx7 ⟨⟩ r h
    try dsimp only at h
    have hd_i6 : (decide ((a_0.length : Int) < (a_0.length : Int))) = false := decide_eq_false (by omega)
    conv => lhs; whnf
    rw [hd_i6]
    conv => lhs; whnf
    obtain rfl := Option.some.inj h; show _ = _; kernel_rfl

noncomputable def p_slices_DeleteFunc_impl_parted_c1 (a_0 : List Record) : Option (List Record) :=
  callK (p_slices_IndexFunc_impl_parted_c1 a_0) fun y1 =>
  if y1 = (-1) then
    some a_0
  else
    iterK (fun ((v3, v4, v5) : (Int × Int × (List Record))) (nx6 : (Int × Int × (List Record)) → Option _) =>
      if v4 < (v5.length : Int) then
        getK v5 v4 fun x8 =>
        callK (p_impl_parted_c1 x8) fun y9 =>
        if y9 = true then
          nx6 (v3, (IntKind.i64.wrap (v4 + 1)), v5)
        else
          getK v5 v3 fun x11 =>
          nx6 ((IntKind.i64.wrap (v3 + 1)), (IntKind.i64.wrap (v4 + 1)), (v5.set (Int.toNat v3) x8))
      else
        grd (0 ≤ v3 ∧ v3 < (v5.length : Int)) <|
        grd (0 ≤ v3 ∧ v3 ≤ ((v5.take (Int.toNat v3) ++ List.replicate (v5.length - (Int.toNat v3)) (⟨(⟨#[]⟩ : ByteArray), 0, 0, (⟨#[]⟩ : ByteArray), (⟨#[]⟩ : ByteArray)⟩ : Record)).length : Int)) <|
        some ((v5.take (Int.toNat v3) ++ List.replicate (v5.length - (Int.toNat v3)) (⟨(⟨#[]⟩ : ByteArray), 0, 0, (⟨#[]⟩ : ByteArray), (⟨#[]⟩ : ByteArray)⟩ : Record)).take (Int.toNat v3))) NN (y1, (IntKind.i64.wrap (y1 + 1)), a_0)

set_option maxHeartbeats 4000000 in
theorem L_slices_DeleteFunc_impl_parted_c1 (a_0 : List Record) {r : (List Record)} (h : p_slices_DeleteFunc_impl_parted_c1 a_0 = some r) : callL E 157 [.sl 0, .clo 275 []] ([some (.arr 28 5 (a_0.map rRecord))] : Fo) = some (.sl 1, ([none, some (.arr 28 5 (r.map rRecord))] : Fo)) := by
  unfold p_slices_DeleteFunc_impl_parted_c1 at h
  refine callW (fu := Try.f157) rfl rfl rfl NN ?_
  intro lp cl hlp hcl
  conv => lhs; whnf
  obtain ⟨y1, h_y1, h⟩ := callK_inv h
  rw [cl_eq hcl (L_slices_IndexFunc_impl_parted_c1 a_0 h_y1)]
  rotate_left
  · show _ = _; kernel_rfl
  · show _ = _; kernel_rfl
  conv => lhs; whnf
  cases hb2 : (y1 == (-1))
  · replace h := ifF h (beqF hb2); conv => lhs; whnf
    refine loop_iter hlp (fun ((v3, v4, v5) : (Int × Int × (List Record))) => ([.sl 0, .clo 275 [], .dead, .dead, .dead, IN v3, IN v4] ++ List.replicate 35 .dead : List V)) (fun ((v3, v4, v5) : (Int × Int × (List Record))) => ([some (.arr 28 5 (v5.map rRecord))] : Fo)) (fun (r : (List Record)) => ((.sl 1 : V), ([none, some (.arr 28 5 (r.map rRecord))] : Fo))) ?_ (y1, (IntKind.i64.wrap (y1 + 1)), a_0) _ (fun kk => by kernel_rfl) h
    clear h
    rintro next_nx6 nx6 hnx6 ⟨v3, v4, v5⟩ r h
    try dsimp only at h
    conv => lhs; whnf
    try rw [len_of (l := v5) (r := rRecord)]
    cases hb7 : (decide (v4 < (v5.length : Int)))
    · replace h := ifF h (decF hb7); conv => lhs; whnf
      obtain ⟨hg12, h⟩ := grd_inv h
      try rw [List.length_map]
      try (rw [decide_eq_true hg12.1]; conv => lhs; whnf)
      try (rw [decide_eq_true hg12.2])
      conv => lhs; whnf
      first | (rw [wipe_of (r := rRecord) (l := v5) (x := (⟨(⟨#[]⟩ : ByteArray), 0, 0, (⟨#[]⟩ : ByteArray), (⟨#[]⟩ : ByteArray)⟩ : Record)) ?hh]; case hh => exact rfl) | skip
      obtain ⟨hg13, h⟩ := grd_inv h
      try rw [List.length_map]
      try (rw [decide_eq_true hg13.1]; conv => lhs; whnf)
      try (rw [decide_eq_true hg13.2])
      conv => lhs; whnf
      try rw [take_of (r := rRecord) (l := (v5.take (Int.toNat v3) ++ List.replicate (v5.length - (Int.toNat v3)) (⟨(⟨#[]⟩ : ByteArray), 0, 0, (⟨#[]⟩ : ByteArray), (⟨#[]⟩ : ByteArray)⟩ : Record)))]
      obtain rfl := Option.some.inj h; show _ = _; kernel_rfl
    · replace h := ifT h (decT hb7); conv => lhs; whnf
      obtain ⟨x8, hq_x8, hx_x8', h⟩ := getK_inv h
      have hx_x8 := get_of (r := rRecord) hx_x8'
      try (rw [decide_eq_true hq_x8]; conv => lhs; whnf)
      rw [hx_x8]
      conv => lhs; whnf
      rw [hx_x8]
      conv => lhs; whnf
      obtain ⟨y9, h_y9, h⟩ := callK_inv h
      rw [cl_eq hcl (L_impl_parted_c1 x8 h_y9)]
      rotate_left
      · show _ = _; kernel_rfl
      · show _ = _; kernel_rfl
      conv => lhs; whnf
      cases hb10 : y9
      · replace h := ifF h (booF hb10); conv => lhs; whnf
        obtain ⟨x11, hq_x11, hx_x11', h⟩ := getK_inv h
        have hx_x11 := get_of (r := rRecord) hx_x11'
        try (rw [decide_eq_true hq_x11]; conv => lhs; whnf)
        rw [hx_x11]
        conv => lhs; whnf
        rw [hx_x11]
        conv => lhs; whnf
        first | (rw [map_set_of (r := rRecord) (l := v5) (x := x8) ?hh]; case hh => exact rfl) | skip
        exact hnx6 _ _ _ _ (fun kk => by kernel_rfl) h
      · replace h := ifT h hb10; conv => lhs; whnf
        exact hnx6 _ _ _ _ (fun kk => by kernel_rfl) h
  · replace h := ifT h (beqT hb2); conv => lhs; whnf
    obtain rfl := Option.some.inj h; show _ = _; kernel_rfl

noncomputable def p_impl_parted (a_0 : List Record) : Option ((List Record) × (List Record)) :=
  grd (appOk a_0.length 64 = true) <|
  callK (p_slices_DeleteFunc_impl_isRange a_0) fun y1 =>
  grd (appOk a_0.length 64 = true) <|
  callK (p_slices_DeleteFunc_impl_parted_c1 a_0) fun y2 =>
  some (y1, y2)

set_option maxHeartbeats 4000000 in
theorem L_impl_parted (a_0 : List Record) {r : ((List Record) × (List Record))} (h : p_impl_parted a_0 = some r) : callL E 207 [.d (.arr (a_0.map rRecord))] ([] : Fo) = some (.tup [.d (.arr (r.1.map rRecord)), .d (.arr (r.2.map rRecord))], ([] : Fo)) := by
  unfold p_impl_parted at h
  refine callW (fu := Try.f207) rfl rfl rfl NN ?_
  intro lp cl hlp hcl
  conv => lhs; whnf
  obtain ⟨hg3, h⟩ := grd_inv h
  rw [cl_eq hcl (f_clone (rows := a_0.map rRecord) rfl (app_eq hg3 (List.length_map ..) rfl) (allLen_map rRecord _ rRecord_len _) rfl)]
  rotate_left
  · exact rfl
  · exact rfl
  conv => lhs; whnf
  obtain ⟨y1, h_y1, h⟩ := callK_inv h
  rw [cl_eq hcl (L_slices_DeleteFunc_impl_isRange a_0 h_y1)]
  rotate_left
  · show _ = _; kernel_rfl
  · show _ = _; kernel_rfl
  conv => lhs; whnf
  obtain ⟨hg4, h⟩ := grd_inv h
  rw [cl_eq hcl (f_clone (rows := a_0.map rRecord) rfl (app_eq hg4 (List.length_map ..) rfl) (allLen_map rRecord _ rRecord_len _) rfl)]
  rotate_left
  · exact rfl
  · exact rfl
  conv => lhs; whnf
  obtain ⟨y2, h_y2, h⟩ := callK_inv h
  rw [cl_eq hcl (L_slices_DeleteFunc_impl_parted_c1 a_0 h_y2)]
  rotate_left
  · show _ = _; kernel_rfl
  · show _ = _; kernel_rfl
  conv => lhs; whnf
  obtain rfl := Option.some.inj h; show _ = _; kernel_rfl

noncomputable def p_slices_Compact (a_0 : List ByteArray) : Option (List ByteArray) :=
  if (a_0.length : Int) < 2 then
    some a_0
  else
    iterK (fun (v2 : Int) (nx3 : Int → Option _) =>
      if v2 < (a_0.length : Int) then
        getK a_0 v2 fun x5 =>
        getK a_0 (IntKind.i64.wrap (v2 - 1)) fun x6 =>
        if (x5.toList == x6.toList) = true then
          grd (0 ≤ v2 ∧ v2 < (a_0.length : Int)) <|
          iterK (fun ((v8, v9, v10) : (Int × Int × (List ByteArray))) (nx11 : (Int × Int × (List ByteArray)) → Option _) =>
            if v9 < ((List.drop (Int.toNat v2) v10).length : Int) then
              grd (0 ≤ v9) <|
              getN v10 ((Int.toNat v2) + Int.toNat v9) fun x13 =>
              grd (0 ≤ (IntKind.i64.wrap (v9 - 1))) <|
              getN v10 ((Int.toNat v2) + Int.toNat (IntKind.i64.wrap (v9 - 1))) fun x14 =>
              if (x13.toList == x14.toList) = true then
                nx11 (v8, (IntKind.i64.wrap (v9 + 1)), v10)
              else
                grd (0 ≤ v9) <|
                getK v10 v8 fun x16 =>
                nx11 ((IntKind.i64.wrap (v8 + 1)), (IntKind.i64.wrap (v9 + 1)), (v10.set (Int.toNat v8) x13))
            else
              grd (0 ≤ v8 ∧ v8 < (v10.length : Int)) <|
              grd (0 ≤ v8 ∧ v8 ≤ ((v10.take (Int.toNat v8) ++ List.replicate (v10.length - (Int.toNat v8)) ((⟨#[]⟩ : ByteArray) : ByteArray)).length : Int)) <|
              some ((v10.take (Int.toNat v8) ++ List.replicate (v10.length - (Int.toNat v8)) ((⟨#[]⟩ : ByteArray) : ByteArray)).take (Int.toNat v8))) NN (v2, 1, a_0)
        else
          nx3 (IntKind.i64.wrap (v2 + 1))
      else
        some a_0) NN 1

set_option maxHeartbeats 4000000 in
theorem L_slices_Compact (a_0 : List ByteArray) {r : (List ByteArray)} (h : p_slices_Compact a_0 = some r) : callL E 255 [.sl 0] ([some (.arr 9 1 (a_0.map rS))] : Fo) = some (.sl 1, ([none, some (.arr 9 1 (r.map rS))] : Fo)) := by
  unfold p_slices_Compact at h
  refine callW (fu := Try.f255) rfl rfl rfl NN ?_
  intro lp cl hlp hcl
  conv => lhs; whnf
  try rw [len_of (l := a_0) (r := rS)]
  cases hb1 : (decide ((a_0.length : Int) < 2))
  · replace h := ifF h (decF hb1); conv => lhs; whnf
    refine loop_iter hlp (fun (v2 : Int) => ([.sl 0, .dead, .dead, IN v2] ++ List.replicate 57 .dead : List V)) (fun (v2 : Int) => ([some (.arr 9 1 (a_0.map rS))] : Fo)) (fun (r : (List ByteArray)) => ((.sl 1 : V), ([none, some (.arr 9 1 (r.map rS))] : Fo))) ?_ 1 _ (fun kk => by kernel_rfl) h
    clear h
    rintro next_nx3 nx3 hnx3 v2 r h
    try dsimp only at h
    conv => lhs; whnf
    try rw [len_of (l := a_0) (r := rS)]
    cases hb4 : (decide (v2 < (a_0.length : Int)))
    · replace h := ifF h (decF hb4); conv => lhs; whnf
      obtain rfl := Option.some.inj h; show _ = _; kernel_rfl
    · replace h := ifT h (decT hb4); conv => lhs; whnf
      obtain ⟨x5, hq_x5, hx_x5', h⟩ := getK_inv h
      have hx_x5 := get_of (r := rS) hx_x5'
      try (rw [decide_eq_true hq_x5]; conv => lhs; whnf)
      rw [hx_x5]
      conv => lhs; whnf
      rw [hx_x5]
      conv => lhs; whnf
      obtain ⟨x6, hq_x6, hx_x6', h⟩ := getK_inv h
      have hx_x6 := get_of (r := rS) hx_x6'
      try (rw [decide_eq_true hq_x6]; conv => lhs; whnf)
      rw [hx_x6]
      conv => lhs; whnf
      rw [hx_x6]
      conv => lhs; whnf
      cases hb7 : (x5.toList == x6.toList)
      · replace h := ifF h (booF hb7); conv => lhs; whnf
        exact hnx3 _ _ _ _ (fun kk => by kernel_rfl) h
      · replace h := ifT h hb7; conv => lhs; whnf
        obtain ⟨hg17, h⟩ := grd_inv h
        try rw [List.length_map]
        try (rw [decide_eq_true hg17.1]; conv => lhs; whnf)
        try (rw [decide_eq_true hg17.2])
        conv => lhs; whnf
        refine loop_iter hlp (fun ((v8, v9, v10) : (Int × Int × (List ByteArray))) => ([.sl 0, .dead, .dead, IN v8, .tl 0 (Int.toNat v2), IN v9] ++ List.replicate 55 .dead : List V)) (fun ((v8, v9, v10) : (Int × Int × (List ByteArray))) => ([some (.arr 9 1 (v10.map rS))] : Fo)) (fun (r : (List ByteArray)) => ((.sl 1 : V), ([none, some (.arr 9 1 (r.map rS))] : Fo))) ?_ (v2, 1, a_0) _ (fun kk => by kernel_rfl) h
        clear h
        rintro next_nx11 nx11 hnx11 ⟨v8, v9, v10⟩ r h
        try dsimp only at h
        conv => lhs; whnf
        try rw [← List.map_drop]
        try rw [len_of (l := (List.drop (Int.toNat v2) v10)) (r := rS)]
        cases hb12 : (decide (v9 < ((List.drop (Int.toNat v2) v10).length : Int)))
        · replace h := ifF h (decF hb12); conv => lhs; whnf
          obtain ⟨hg18, h⟩ := grd_inv h
          try rw [List.length_map]
          try (rw [decide_eq_true hg18.1]; conv => lhs; whnf)
          try (rw [decide_eq_true hg18.2])
          conv => lhs; whnf
          first | (rw [wipe_of (r := rS) (l := v10) (x := ((⟨#[]⟩ : ByteArray) : ByteArray)) ?hh]; case hh => exact rfl) | skip
          obtain ⟨hg19, h⟩ := grd_inv h
          try rw [List.length_map]
          try (rw [decide_eq_true hg19.1]; conv => lhs; whnf)
          try (rw [decide_eq_true hg19.2])
          conv => lhs; whnf
          try rw [take_of (r := rS) (l := (v10.take (Int.toNat v8) ++ List.replicate (v10.length - (Int.toNat v8)) ((⟨#[]⟩ : ByteArray) : ByteArray)))]
          obtain rfl := Option.some.inj h; show _ = _; kernel_rfl
        · replace h := ifT h (decT hb12); conv => lhs; whnf
          obtain ⟨hg20, h⟩ := grd_inv h
          try (rw [decide_eq_true hg20]; conv => lhs; whnf)
          conv => lhs; whnf
          obtain ⟨x13, hx_x13', h⟩ := getN_inv h
          have hx_x13 := get_of (r := rS) hx_x13'
          rw [hx_x13]
          conv => lhs; whnf
          rw [hx_x13]
          conv => lhs; whnf
          obtain ⟨hg21, h⟩ := grd_inv h
          try (rw [decide_eq_true hg21]; conv => lhs; whnf)
          conv => lhs; whnf
          obtain ⟨x14, hx_x14', h⟩ := getN_inv h
          have hx_x14 := get_of (r := rS) hx_x14'
          rw [hx_x14]
          conv => lhs; whnf
          rw [hx_x14]
          conv => lhs; whnf
          cases hb15 : (x13.toList == x14.toList)
          · replace h := ifF h (booF hb15); conv => lhs; whnf
            obtain ⟨hg22, h⟩ := grd_inv h
            try (rw [decide_eq_true hg22]; conv => lhs; whnf)
            conv => lhs; whnf
            rw [hx_x13]
            conv => lhs; whnf
            rw [hx_x13]
            conv => lhs; whnf
            obtain ⟨x16, hq_x16, hx_x16', h⟩ := getK_inv h
            have hx_x16 := get_of (r := rS) hx_x16'
            try (rw [decide_eq_true hq_x16]; conv => lhs; whnf)
            rw [hx_x16]
            conv => lhs; whnf
            rw [hx_x16]
            conv => lhs; whnf
            first | (rw [map_set_of (r := rS) (l := v10) (x := x13) ?hh]; case hh => exact rfl) | skip
            exact hnx11 _ _ _ _ (fun kk => by kernel_rfl) h
          · replace h := ifT h hb15; conv => lhs; whnf
            exact hnx11 _ _ _ _ (fun kk => by kernel_rfl) h
  · replace h := ifT h (decT hb1); conv => lhs; whnf
    obtain rfl := Option.some.inj h; show _ = _; kernel_rfl

noncomputable def p_impl_keysOf (a_0 : List Record) : Option (List ByteArray) :=
  grd (a_0.length < 4611686018427387904) <|
  forK a_0 (fun (i5 : Nat) x8 (v6 : List ByteArray) (nx7 : (List ByteArray) → Option _) =>
    grd (appOk (v6.length + 1) 16 = true) <|
    nx7 (v6 ++ ([x8.Key] : List ByteArray))) ([] : List ByteArray) (fun (v6 : List ByteArray) =>
    callK (p_slices_Compact v6) fun y9 =>
    some y9)

set_option maxHeartbeats 4000000 in
theorem L_impl_keysOf (a_0 : List Record) {r : (List ByteArray)} (h : p_impl_keysOf a_0 = some r) : callL E 208 [.d (.arr (a_0.map rRecord))] ([] : Fo) = some (.d (.arr (r.map rS)), ([] : Fo)) := by
  unfold p_impl_keysOf at h
  refine callW (fu := Try.f208) rfl rfl rfl NN ?_
  intro lp cl hlp hcl
  conv => lhs; whnf
  try rw [len_of (l := a_0) (r := rRecord)]
  obtain ⟨hl_i5, h⟩ := grd_inv h
  refine loop_for hlp (l := a_0) hl_i5 (fun (i5 : Nat) (v6 : List ByteArray) => ([.dead, .dead, .dead, .sl 0, .dead, .dead, .d (.arr (a_0.map rRecord)), IN (a_0.length : Int), IN (i5 : Int)] ++ List.replicate 11 .dead : List V)) (fun (i5 : Nat) (v6 : List ByteArray) => ([some (.arr 9 1 (v6.map rS))] : Fo)) (fun (r : (List ByteArray)) => ((.d (.arr (r.map rS)) : V), ([] : Fo))) ?_ ?_ ([] : List ByteArray) _ (fun kk => by kernel_rfl) h
  · clear h
    rintro next_nx7 nx7 i5 hi_i5 hnx7 v6 r h
    try dsimp only at h
    have hn_i5 : i5 < 4611686018427387904 := by omega
    have hx_x8 := get_map rRecord a_0 i5 hi_i5
    generalize a_0[i5] = x8 at h hx_x8
    have hd_i5 : (decide ((i5 : Int) < (a_0.length : Int))) = true := decide_eq_true (by omega)
    conv => lhs; whnf
    rw [hd_i5]
    conv => lhs; whnf
    try (rw [decide_eq_true hq_x8]; conv => lhs; whnf)
    rw [hx_x8]
    conv => lhs; whnf
    rw [hx_x8]
    conv => lhs; whnf
    obtain ⟨hg10, h⟩ := grd_inv h
    rw [app_eq hg10 ?h1 ?h2]
    case h1 => first | exact rfl | (simp only [List.length_map, List.length_cons, List.length_nil]; done) | (rw [List.length_map]; rfl)
    case h2 => exact rfl
    conv => lhs; whnf
    first | (rw [map_app_of (r := rS) (l := v6) (m := ([x8.Key] : List ByteArray)) ?hh]; case hh => exact rfl) | skip
    rw [wrap_nat i5 (by have := hn_i5; omega)]
    exact hnx7 _ _ _ _ (fun kk => by kernel_rfl) h
  · clear h
    rintro next_nx7 v6 r h
    try dsimp only at h
    have hd_i5 : (decide ((a_0.length : Int) < (a_0.length : Int))) = false := decide_eq_false (by omega)
    conv => lhs; whnf
    rw [hd_i5]
    conv => lhs; whnf
    obtain ⟨y9, h_y9, h⟩ := callK_inv h
    rw [cl_eq hcl (L_slices_Compact v6 h_y9)]
    rotate_left
    · show _ = _; kernel_rfl
    · show _ = _; kernel_rfl
    conv => lhs; whnf
    obtain rfl := Option.some.inj h; show _ = _; kernel_rfl

noncomputable def p_impl_look (a_0 : List Record) (a_1 : ByteArray) (a_2 : Int) : Option (Record × Bool) :=
  grd (a_0.length < 4611686018427387904) <|
  forK a_0 (fun (i9 : Nat) x12 (v10 : Record) (nx11 : Record → Option _) =>
    if x12.Seq ≤ a_2 then
      if x12.Seq > v10.Seq then
        callK (p_impl_Record_affects x12 a_1) fun y15 =>
        if y15 = true then
          nx11 x12
        else
          nx11 v10
      else
        nx11 v10
    else
      nx11 v10) (⟨(⟨#[]⟩ : ByteArray), 0, 0, (⟨#[]⟩ : ByteArray), (⟨#[]⟩ : ByteArray)⟩ : Record) (fun (v10 : Record) =>
    some (v10, (decide (v10.Seq > 0))))

set_option maxHeartbeats 4000000 in
theorem L_impl_look (a_0 : List Record) (a_1 : ByteArray) (a_2 : Int) {r : (Record × Bool)} (h : p_impl_look a_0 a_1 a_2 = some r) : callL E 209 [.d (.arr (a_0.map rRecord)), ST a_1, IN a_2] ([] : Fo) = some (.tup [.agg [ST r.1.Key, IN r.1.Seq, IN r.1.Kind, ST r.1.Value, ST r.1.End], BO r.2], ([] : Fo)) := by
  unfold p_impl_look at h
  refine callW (fu := Try.f209) rfl rfl rfl NN ?_
  intro lp cl hlp hcl
  conv => lhs; whnf
  try rw [len_of (l := a_0) (r := rRecord)]
  obtain ⟨hl_i9, h⟩ := grd_inv h
  refine loop_for hlp (l := a_0) hl_i9 (fun (i9 : Nat) (v10 : Record) => ([.dead, ST a_1, IN a_2, .dead, .dead, .dead, .bp 0 0, .dead, .bp 1 0, .dead, .dead, .d (.arr (a_0.map rRecord)), IN (a_0.length : Int), IN (i9 : Int)] ++ List.replicate 25 .dead : List V)) (fun (i9 : Nat) (v10 : Record) => ([some (.box [ST (⟨#[]⟩ : ByteArray), IN 0, IN 0, ST (⟨#[]⟩ : ByteArray), ST (⟨#[]⟩ : ByteArray)]), some (.box [ST v10.Key, IN v10.Seq, IN v10.Kind, ST v10.Value, ST v10.End])] : Fo)) (fun (r : (Record × Bool)) => ((.tup [.agg [ST r.1.Key, IN r.1.Seq, IN r.1.Kind, ST r.1.Value, ST r.1.End], BO r.2] : V), ([] : Fo))) ?_ ?_ (⟨(⟨#[]⟩ : ByteArray), 0, 0, (⟨#[]⟩ : ByteArray), (⟨#[]⟩ : ByteArray)⟩ : Record) _ (fun kk => by kernel_rfl) h
  · clear h
    rintro next_nx11 nx11 i9 hi_i9 hnx11 v10 r h
    try dsimp only at h
    have hn_i9 : i9 < 4611686018427387904 := by omega
    have hx_x12 := get_map rRecord a_0 i9 hi_i9
    generalize a_0[i9] = x12 at h hx_x12
    have hd_i9 : (decide ((i9 : Int) < (a_0.length : Int))) = true := decide_eq_true (by omega)
    conv => lhs; whnf
    rw [hd_i9]
    conv => lhs; whnf
    try (rw [decide_eq_true hq_x12]; conv => lhs; whnf)
    rw [hx_x12]
    conv => lhs; whnf
    rw [hx_x12]
    conv => lhs; whnf
    cases hb13 : (decide (x12.Seq ≤ a_2))
    · replace h := ifF h (decF hb13); conv => lhs; whnf
      try (rw [hb13]; conv => lhs; whnf)
      try (rw [hb13]; conv => lhs; whnf)
      try (rw [hb13]; conv => lhs; whnf)
      try (rw [hb13]; conv => lhs; whnf)
      try (rw [hb13]; conv => lhs; whnf)
      rw [wrap_nat i9 (by have := hn_i9; omega)]
      exact hnx11 _ _ _ _ (fun kk => by kernel_rfl) h
    · replace h := ifT h (decT hb13); conv => lhs; whnf
      try (rw [hb13]; conv => lhs; whnf)
      try (rw [hb13]; conv => lhs; whnf)
      try (rw [hb13]; conv => lhs; whnf)
      try (rw [hb13]; conv => lhs; whnf)
      try (rw [hb13]; conv => lhs; whnf)
      cases hb14 : (decide (x12.Seq > v10.Seq))
      · replace h := ifF h (decF hb14); conv => lhs; whnf
        try (rw [hb14]; conv => lhs; whnf)
        try (rw [hb14]; conv => lhs; whnf)
        try (rw [hb14]; conv => lhs; whnf)
        rw [wrap_nat i9 (by have := hn_i9; omega)]
        exact hnx11 _ _ _ _ (fun kk => by kernel_rfl) h
      · replace h := ifT h (decT hb14); conv => lhs; whnf
        try (rw [hb14]; conv => lhs; whnf)
        try (rw [hb14]; conv => lhs; whnf)
        obtain ⟨y15, h_y15, h⟩ := callK_inv h
        rw [cl_eq hcl (L_impl_Record_affects x12 a_1 h_y15)]
        rotate_left
        · show _ = _; kernel_rfl
        · show _ = _; kernel_rfl
        conv => lhs; whnf
        try (rw [hb14]; conv => lhs; whnf)
        cases hb16 : y15
        · replace h := ifF h (booF hb16); conv => lhs; whnf
          rw [wrap_nat i9 (by have := hn_i9; omega)]
          exact hnx11 _ _ _ _ (fun kk => by kernel_rfl) h
        · replace h := ifT h hb16; conv => lhs; whnf
          rw [wrap_nat i9 (by have := hn_i9; omega)]
          exact hnx11 _ _ _ _ (fun kk => by kernel_rfl) h
  · clear h
    rintro next_nx11 v10 r h
    try dsimp only at h
    have hd_i9 : (decide ((a_0.length : Int) < (a_0.length : Int))) = false := decide_eq_false (by omega)
    conv => lhs; whnf
    rw [hd_i9]
    conv => lhs; whnf
    obtain rfl := Option.some.inj h; show _ = _; kernel_rfl

noncomputable def p_impl_visible (a_0 : List Record) (a_1 : ByteArray) (a_2 : Int) : Option (ByteArray × Bool) :=
  callK (p_impl_look a_0 a_1 a_2) fun y1 =>
  if y1.2 = true then
    some (y1.1.Value, (y1.1.Kind == 1))
  else
    some (y1.1.Value, false)

set_option maxHeartbeats 4000000 in
theorem L_impl_visible (a_0 : List Record) (a_1 : ByteArray) (a_2 : Int) {r : (ByteArray × Bool)} (h : p_impl_visible a_0 a_1 a_2 = some r) : callL E 105 [.d (.arr (a_0.map rRecord)), ST a_1, IN a_2] ([] : Fo) = some (.tup [ST r.1, BO r.2], ([] : Fo)) := by
  unfold p_impl_visible at h
  refine callW (fu := Try.f105) rfl rfl rfl NN ?_
  intro lp cl hlp hcl
  conv => lhs; whnf
  obtain ⟨y1, h_y1, h⟩ := callK_inv h
  rw [cl_eq hcl (L_impl_look a_0 a_1 a_2 h_y1)]
  rotate_left
  · show _ = _; kernel_rfl
  · show _ = _; kernel_rfl
  conv => lhs; whnf
  cases hb2 : y1.2
  · replace h := ifF h (booF hb2); conv => lhs; whnf
    try (rw [hb2]; conv => lhs; whnf)
    try (rw [hb2]; conv => lhs; whnf)
    try (rw [hb2]; conv => lhs; whnf)
    obtain rfl := Option.some.inj h; show _ = _; kernel_rfl
  · replace h := ifT h hb2; conv => lhs; whnf
    try (rw [hb2]; conv => lhs; whnf)
    try (rw [hb2]; conv => lhs; whnf)
    try (rw [hb2]; conv => lhs; whnf)
    obtain rfl := Option.some.inj h; show _ = _; kernel_rfl

noncomputable def p_impl_scanVisible (a_0 : List Record) (a_1 : ByteArray) (a_2 : ByteArray) (a_3 : Int) : Option (List Pair) :=
  callK (p_impl_parted a_0) fun y1 =>
  callK (p_impl_keysOf y1.1) fun y2 =>
  grd (y2.length < 4611686018427387904) <|
  forK y2 (fun (i14 : Nat) x17 (v15 : List Pair) (nx16 : (List Pair) → Option _) =>
    if (Op.bytesLess x17.toList a_1.toList) = true then
      nx16 v15
    else
      if (a_2.toList == (⟨#[]⟩ : ByteArray).toList) = true then
        callK (p_impl_visible a_0 x17 a_3) fun y20 =>
        if y20.2 = true then
          grd (appOk (v15.length + 1) 32 = true) <|
          nx16 (v15 ++ ([(⟨x17, y20.1⟩ : Pair)] : List Pair))
        else
          nx16 v15
      else
        if (Op.bytesLess x17.toList a_2.toList) = true then
          callK (p_impl_visible a_0 x17 a_3) fun y23 =>
          if y23.2 = true then
            grd (appOk (v15.length + 1) 32 = true) <|
            nx16 (v15 ++ ([(⟨x17, y23.1⟩ : Pair)] : List Pair))
          else
            nx16 v15
        else
          nx16 v15) ([] : List Pair) (fun (v15 : List Pair) =>
    some v15)

set_option maxHeartbeats 4000000 in
theorem L_impl_scanVisible (a_0 : List Record) (a_1 : ByteArray) (a_2 : ByteArray) (a_3 : Int) {r : (List Pair)} (h : p_impl_scanVisible a_0 a_1 a_2 a_3 = some r) : callL E 103 [.d (.arr (a_0.map rRecord)), ST a_1, ST a_2, IN a_3] ([] : Fo) = some (.d (.arr (r.map rPair)), ([] : Fo)) := by
  unfold p_impl_scanVisible at h
  refine callW (fu := Try.f103) rfl rfl rfl NN ?_
  intro lp cl hlp hcl
  conv => lhs; whnf
  obtain ⟨y1, h_y1, h⟩ := callK_inv h
  rw [cl_eq hcl (L_impl_parted a_0 h_y1)]
  rotate_left
  · show _ = _; kernel_rfl
  · show _ = _; kernel_rfl
  conv => lhs; whnf
  obtain ⟨y2, h_y2, h⟩ := callK_inv h
  rw [cl_eq hcl (L_impl_keysOf y1.1 h_y2)]
  rotate_left
  · show _ = _; kernel_rfl
  · show _ = _; kernel_rfl
  conv => lhs; whnf
  try rw [len_of (l := y2) (r := rS)]
  obtain ⟨hl_i14, h⟩ := grd_inv h
  refine loop_for hlp (l := y2) hl_i14 (fun (i14 : Nat) (v15 : List Pair) => ([.d (.arr (a_0.map rRecord)), ST a_1, ST a_2, IN a_3, .dead, .dead, .dead, .dead, .dead, .dead, .dead, .sl 0, .dead, .dead, .dead, .dead, .dead, .dead, .dead, .dead, .dead, .dead, .d (.arr (y2.map rS)), IN (y2.length : Int), IN (i14 : Int)] ++ List.replicate 31 .dead : List V)) (fun (i14 : Nat) (v15 : List Pair) => ([some (.arr 37 2 (v15.map rPair))] : Fo)) (fun (r : (List Pair)) => ((.d (.arr (r.map rPair)) : V), ([] : Fo))) ?_ ?_ ([] : List Pair) _ (fun kk => by kernel_rfl) h
  · clear h
    rintro next_nx16 nx16 i14 hi_i14 hnx16 v15 r h
    try dsimp only at h
    have hn_i14 : i14 < 4611686018427387904 := by omega
    have hx_x17 := get_map rS y2 i14 hi_i14
    generalize y2[i14] = x17 at h hx_x17
    have hd_i14 : (decide ((i14 : Int) < (y2.length : Int))) = true := decide_eq_true (by omega)
    conv => lhs; whnf
    rw [hd_i14]
    conv => lhs; whnf
    try (rw [decide_eq_true hq_x17]; conv => lhs; whnf)
    rw [hx_x17]
    conv => lhs; whnf
    rw [hx_x17]
    conv => lhs; whnf
    cases hb18 : (Op.bytesLess x17.toList a_1.toList)
    · replace h := ifF h (booF hb18); conv => lhs; whnf
      try (rw [hb18]; conv => lhs; whnf)
      try (rw [hb18]; conv => lhs; whnf)
      cases hb19 : (a_2.toList == (⟨#[]⟩ : ByteArray).toList)
      · replace h := ifF h (booF hb19); conv => lhs; whnf
        try (rw [hb19]; conv => lhs; whnf)
        try (rw [hb19]; conv => lhs; whnf)
        try (rw [hb18]; conv => lhs; whnf)
        try (rw [hb19]; conv => lhs; whnf)
        try (rw [hb18]; conv => lhs; whnf)
        cases hb22 : (Op.bytesLess x17.toList a_2.toList)
        · replace h := ifF h (booF hb22); conv => lhs; whnf
          rw [wrap_nat i14 (by have := hn_i14; omega)]
          exact hnx16 _ _ _ _ (fun kk => by kernel_rfl) h
        · replace h := ifT h hb22; conv => lhs; whnf
          obtain ⟨y23, h_y23, h⟩ := callK_inv h
          rw [cl_eq hcl (L_impl_visible a_0 x17 a_3 h_y23)]
          rotate_left
          · show _ = _; kernel_rfl
          · show _ = _; kernel_rfl
          conv => lhs; whnf
          cases hb24 : y23.2
          · replace h := ifF h (booF hb24); conv => lhs; whnf
            rw [wrap_nat i14 (by have := hn_i14; omega)]
            exact hnx16 _ _ _ _ (fun kk => by kernel_rfl) h
          · replace h := ifT h hb24; conv => lhs; whnf
            obtain ⟨hg25, h⟩ := grd_inv h
            rw [app_eq hg25 ?h1 ?h2]
            case h1 => first | exact rfl | (simp only [List.length_map, List.length_cons, List.length_nil]; done) | (rw [List.length_map]; rfl)
            case h2 => exact rfl
            conv => lhs; whnf
            first | (rw [map_app_of (r := rPair) (l := v15) (m := ([(⟨x17, y23.1⟩ : Pair)] : List Pair)) ?hh]; case hh => exact rfl) | skip
            rw [wrap_nat i14 (by have := hn_i14; omega)]
            exact hnx16 _ _ _ _ (fun kk => by kernel_rfl) h
      · replace h := ifT h hb19; conv => lhs; whnf
        try (rw [hb19]; conv => lhs; whnf)
        try (rw [hb19]; conv => lhs; whnf)
        try (rw [hb18]; conv => lhs; whnf)
        try (rw [hb19]; conv => lhs; whnf)
        try (rw [hb18]; conv => lhs; whnf)
        obtain ⟨y20, h_y20, h⟩ := callK_inv h
        rw [cl_eq hcl (L_impl_visible a_0 x17 a_3 h_y20)]
        rotate_left
        · show _ = _; kernel_rfl
        · show _ = _; kernel_rfl
        conv => lhs; whnf
        cases hb21 : y20.2
        · replace h := ifF h (booF hb21); conv => lhs; whnf
          rw [wrap_nat i14 (by have := hn_i14; omega)]
          exact hnx16 _ _ _ _ (fun kk => by kernel_rfl) h
        · replace h := ifT h hb21; conv => lhs; whnf
          obtain ⟨hg26, h⟩ := grd_inv h
          rw [app_eq hg26 ?h1 ?h2]
          case h1 => first | exact rfl | (simp only [List.length_map, List.length_cons, List.length_nil]; done) | (rw [List.length_map]; rfl)
          case h2 => exact rfl
          conv => lhs; whnf
          first | (rw [map_app_of (r := rPair) (l := v15) (m := ([(⟨x17, y20.1⟩ : Pair)] : List Pair)) ?hh]; case hh => exact rfl) | skip
          rw [wrap_nat i14 (by have := hn_i14; omega)]
          exact hnx16 _ _ _ _ (fun kk => by kernel_rfl) h
    · replace h := ifT h hb18; conv => lhs; whnf
      try (rw [hb18]; conv => lhs; whnf)
      try (rw [hb18]; conv => lhs; whnf)
      try (rw [hb18]; conv => lhs; whnf)
      try (rw [hb18]; conv => lhs; whnf)
      rw [wrap_nat i14 (by have := hn_i14; omega)]
      exact hnx16 _ _ _ _ (fun kk => by kernel_rfl) h
  · clear h
    rintro next_nx16 v15 r h
    try dsimp only at h
    have hd_i14 : (decide ((y2.length : Int) < (y2.length : Int))) = false := decide_eq_false (by omega)
    conv => lhs; whnf
    rw [hd_i14]
    conv => lhs; whnf
    obtain rfl := Option.some.inj h; show _ = _; kernel_rfl

noncomputable def p_impl_ScanVisible (a_0 : List Record) (a_1 : ByteArray) (a_2 : ByteArray) (a_3 : Int) : Option (List Pair) :=
  callK (p_impl_ValidRun a_0) fun y1 =>
  if y1 = true then
    callK (p_impl_boundsOk a_1 a_2) fun y3 =>
    if y3 = true then
      callK (p_impl_scanVisible a_0 a_1 a_2 a_3) fun y5 =>
      some y5
    else
      some ([] : List Pair)
  else
    some ([] : List Pair)

set_option maxHeartbeats 4000000 in
theorem L_impl_ScanVisible (a_0 : List Record) (a_1 : ByteArray) (a_2 : ByteArray) (a_3 : Int) {r : (List Pair)} (h : p_impl_ScanVisible a_0 a_1 a_2 a_3 = some r) : callL E 22 [.d (.arr (a_0.map rRecord)), ST a_1, ST a_2, IN a_3] ([] : Fo) = some (.d (.arr (r.map rPair)), ([] : Fo)) := by
  unfold p_impl_ScanVisible at h
  refine callW (fu := Try.f22) rfl rfl rfl NN ?_
  intro lp cl hlp hcl
  conv => lhs; whnf
  obtain ⟨y1, h_y1, h⟩ := callK_inv h
  rw [cl_eq hcl (L_impl_ValidRun a_0 h_y1)]
  rotate_left
  · show _ = _; kernel_rfl
  · show _ = _; kernel_rfl
  conv => lhs; whnf
  cases hb2 : y1
  · replace h := ifF h (booF hb2); conv => lhs; whnf
    try (rw [hb2]; conv => lhs; whnf)
    try (rw [hb2]; conv => lhs; whnf)
    try (rw [hb2]; conv => lhs; whnf)
    try (rw [hb2]; conv => lhs; whnf)
    obtain rfl := Option.some.inj h; show _ = _; kernel_rfl
  · replace h := ifT h hb2; conv => lhs; whnf
    try (rw [hb2]; conv => lhs; whnf)
    try (rw [hb2]; conv => lhs; whnf)
    obtain ⟨y3, h_y3, h⟩ := callK_inv h
    rw [cl_eq hcl (L_impl_boundsOk a_1 a_2 h_y3)]
    rotate_left
    · show _ = _; kernel_rfl
    · show _ = _; kernel_rfl
    conv => lhs; whnf
    try (rw [hb2]; conv => lhs; whnf)
    try (rw [hb2]; conv => lhs; whnf)
    cases hb4 : y3
    · replace h := ifF h (booF hb4); conv => lhs; whnf
      obtain rfl := Option.some.inj h; show _ = _; kernel_rfl
    · replace h := ifT h hb4; conv => lhs; whnf
      obtain ⟨y5, h_y5, h⟩ := callK_inv h
      rw [cl_eq hcl (L_impl_scanVisible a_0 a_1 a_2 a_3 h_y5)]
      rotate_left
      · show _ = _; kernel_rfl
      · show _ = _; kernel_rfl
      conv => lhs; whnf
      obtain rfl := Option.some.inj h; show _ = _; kernel_rfl

noncomputable def p_impl_VisibleAt (a_0 : List Record) (a_1 : Int) : Option (List Pair) :=
  callK (p_impl_ScanVisible a_0 (⟨#[]⟩ : ByteArray) (⟨#[]⟩ : ByteArray) a_1) fun y1 =>
  some y1

set_option maxHeartbeats 4000000 in
theorem L_impl_VisibleAt (a_0 : List Record) (a_1 : Int) {r : (List Pair)} (h : p_impl_VisibleAt a_0 a_1 = some r) : callL E 18 [.d (.arr (a_0.map rRecord)), IN a_1] ([] : Fo) = some (.d (.arr (r.map rPair)), ([] : Fo)) := by
  unfold p_impl_VisibleAt at h
  refine callW (fu := Try.f18) rfl rfl rfl NN ?_
  intro lp cl hlp hcl
  conv => lhs; whnf
  obtain ⟨y1, h_y1, h⟩ := callK_inv h
  rw [cl_eq hcl (L_impl_ScanVisible a_0 (⟨#[]⟩ : ByteArray) (⟨#[]⟩ : ByteArray) a_1 h_y1)]
  rotate_left
  · show _ = _; kernel_rfl
  · show _ = _; kernel_rfl
  conv => lhs; whnf
  obtain rfl := Option.some.inj h; show _ = _; kernel_rfl

noncomputable def p_slices_Equal (a_0 : List Pair) (a_1 : List Pair) : Option Bool :=
  if ¬ (a_0.length : Int) = (a_1.length : Int) then
    some false
  else
    grd (a_0.length < 4611686018427387904) <|
    forK a_0 (fun (i7 : Nat) x9 (_ : Unit) (nx8 : Unit → Option _) =>
      getK a_1 (i7 : Int) fun x10 =>
      if ((x9.Key.toList == x10.Key.toList) && ((x9.Value.toList == x10.Value.toList) && true)) = true then
        nx8 ()
      else
        some false) () (fun (_ : Unit) =>
      some true)

set_option maxHeartbeats 4000000 in
theorem L_slices_Equal (a_0 : List Pair) (a_1 : List Pair) {r : Bool} (h : p_slices_Equal a_0 a_1 = some r) : callL E 99 [.d (.arr (a_0.map rPair)), .d (.arr (a_1.map rPair))] ([] : Fo) = some (BO r, ([] : Fo)) := by
  unfold p_slices_Equal at h
  refine callW (fu := Try.f99) rfl rfl rfl NN ?_
  intro lp cl hlp hcl
  conv => lhs; whnf
  try rw [len_of (l := a_0) (r := rPair)]
  try rw [len_of (l := a_1) (r := rPair)]
  cases hb1 : ((a_0.length : Int) != (a_1.length : Int))
  · replace h := ifF h ((fun h => not_not_intro (bneF h)) hb1); conv => lhs; whnf
    try rw [len_of (l := a_0) (r := rPair)]
    obtain ⟨hl_i7, h⟩ := grd_inv h
    refine loop_for hlp (l := a_0) hl_i7 (fun (i7 : Nat) (_ : Unit) => ([.d (.arr (a_0.map rPair)), .d (.arr (a_1.map rPair)), .dead, .dead, .dead, .dead, .dead, .dead, .dead, .dead, .dead, .dead, IN (a_0.length : Int), IN (i7 : Int)] ++ List.replicate 12 .dead : List V)) (fun (i7 : Nat) (_ : Unit) => ([] : Fo)) (fun (r : Bool) => ((BO r : V), ([] : Fo))) ?_ ?_ () _ (fun kk => by kernel_rfl) h
    · clear h
      rintro next_nx8 nx8 i7 hi_i7 hnx8 ⟨⟩ r h
      try dsimp only at h
      have hn_i7 : i7 < 4611686018427387904 := by omega
      have hx_x9 := get_map rPair a_0 i7 hi_i7
      generalize a_0[i7] = x9 at h hx_x9
      have hd_i7 : (decide ((i7 : Int) < (a_0.length : Int))) = true := decide_eq_true (by omega)
      conv => lhs; whnf
      rw [hd_i7]
      conv => lhs; whnf
      try (rw [decide_eq_true hq_x9]; conv => lhs; whnf)
      rw [hx_x9]
      conv => lhs; whnf
      rw [hx_x9]
      conv => lhs; whnf
      obtain ⟨x10, hq_x10, hx_x10', h⟩ := getK_inv h
      have hx_x10 := get_of (r := rPair) hx_x10'
      try (rw [decide_eq_true hq_x10]; conv => lhs; whnf)
      rw [hx_x10]
      conv => lhs; whnf
      rw [hx_x10]
      conv => lhs; whnf
      cases hb11 : ((x9.Key.toList == x10.Key.toList) && ((x9.Value.toList == x10.Value.toList) && true))
      · replace h := ifF h (booF hb11); conv => lhs; whnf
        obtain rfl := Option.some.inj h; show _ = _; kernel_rfl
      · replace h := ifT h hb11; conv => lhs; whnf
        rw [wrap_nat i7 (by have := hn_i7; omega)]
        exact hnx8 _ _ _ _ (fun kk => by kernel_rfl) h
    · clear h
      rintro next_nx8 ⟨⟩ r h
      try dsimp only at h
      have hd_i7 : (decide ((a_0.length : Int) < (a_0.length : Int))) = false := decide_eq_false (by omega)
      conv => lhs; whnf
      rw [hd_i7]
      conv => lhs; whnf
      obtain rfl := Option.some.inj h; show _ = _; kernel_rfl
  · replace h := ifT h (bneT hb1); conv => lhs; whnf
    obtain rfl := Option.some.inj h; show _ = _; kernel_rfl

noncomputable def p_impl_SamePairs (a_0 : List Pair) (a_1 : List Pair) : Option Bool :=
  callK (p_slices_Equal a_0 a_1) fun y1 =>
  some y1

set_option maxHeartbeats 4000000 in
theorem L_impl_SamePairs (a_0 : List Pair) (a_1 : List Pair) {r : Bool} (h : p_impl_SamePairs a_0 a_1 = some r) : callL E 19 [.d (.arr (a_0.map rPair)), .d (.arr (a_1.map rPair))] ([] : Fo) = some (BO r, ([] : Fo)) := by
  unfold p_impl_SamePairs at h
  refine callW (fu := Try.f19) rfl rfl rfl NN ?_
  intro lp cl hlp hcl
  conv => lhs; whnf
  obtain ⟨y1, h_y1, h⟩ := callK_inv h
  rw [cl_eq hcl (L_slices_Equal a_0 a_1 h_y1)]
  rotate_left
  · show _ = _; kernel_rfl
  · show _ = _; kernel_rfl
  conv => lhs; whnf
  obtain rfl := Option.some.inj h; show _ = _; kernel_rfl

noncomputable def p_spec_l17Key (a_0 : ByteArray) : Option Bool :=
  if (ByteArray.size a_0 : Int) ≥ 1 then
    some (decide ((ByteArray.size a_0 : Int) ≤ 8))
  else
    some false

set_option maxHeartbeats 4000000 in
theorem L_spec_l17Key (a_0 : ByteArray) {r : Bool} (h : p_spec_l17Key a_0 = some r) : callL E 180 [ST a_0] ([] : Fo) = some (BO r, ([] : Fo)) := by
  unfold p_spec_l17Key at h
  refine callW (fu := Try.f180) rfl rfl rfl NN ?_
  intro lp cl hlp hcl
  conv => lhs; whnf
  cases hb1 : (decide ((ByteArray.size a_0 : Int) ≥ 1))
  · replace h := ifF h (decF hb1); conv => lhs; whnf
    try (rw [hb1]; conv => lhs; whnf)
    try (rw [hb1]; conv => lhs; whnf)
    try (rw [hb1]; conv => lhs; whnf)
    obtain rfl := Option.some.inj h; show _ = _; kernel_rfl
  · replace h := ifT h (decT hb1); conv => lhs; whnf
    try (rw [hb1]; conv => lhs; whnf)
    try (rw [hb1]; conv => lhs; whnf)
    try (rw [hb1]; conv => lhs; whnf)
    obtain rfl := Option.some.inj h; show _ = _; kernel_rfl

noncomputable def p_spec_l17Valid (a_0 : Record) : Option Bool :=
  callK (p_spec_l17Key a_0.Key) fun y1 =>
  if y1 = true then
    if (inR a_0.Seq 1 1000000) = true then
      if a_0.Kind = 1 then
        if (ByteArray.size a_0.Value : Int) ≤ 16 then
          some (a_0.End.toList == (⟨#[]⟩ : ByteArray).toList)
        else
          some false
      else
        if a_0.Kind = 2 then
          if (a_0.Value.toList == (⟨#[]⟩ : ByteArray).toList) = true then
            some (a_0.End.toList == (⟨#[]⟩ : ByteArray).toList)
          else
            some false
        else
          if a_0.Kind = 3 then
            if (a_0.Value.toList == (⟨#[]⟩ : ByteArray).toList) = true then
              callK (p_spec_l17Key a_0.End) fun y10 =>
              if y10 = true then
                some (Op.bytesLess a_0.Key.toList a_0.End.toList)
              else
                some false
            else
              some false
          else
            some false
    else
      some false
  else
    some false

set_option maxHeartbeats 4000000 in
theorem L_spec_l17Valid (a_0 : Record) {r : Bool} (h : p_spec_l17Valid a_0 = some r) : callL E 162 [.agg [ST a_0.Key, IN a_0.Seq, IN a_0.Kind, ST a_0.Value, ST a_0.End]] ([] : Fo) = some (BO r, ([] : Fo)) := by
  unfold p_spec_l17Valid at h
  refine callW (fu := Try.f162) rfl rfl rfl NN ?_
  intro lp cl hlp hcl
  conv => lhs; whnf
  obtain ⟨y1, h_y1, h⟩ := callK_inv h
  rw [cl_eq hcl (L_spec_l17Key a_0.Key h_y1)]
  rotate_left
  · show _ = _; kernel_rfl
  · show _ = _; kernel_rfl
  conv => lhs; whnf
  cases hb2 : y1
  · replace h := ifF h (booF hb2); conv => lhs; whnf
    try (rw [hb2]; conv => lhs; whnf)
    try (rw [hb2]; conv => lhs; whnf)
    try (rw [hb2]; conv => lhs; whnf)
    try (rw [hb2]; conv => lhs; whnf)
    obtain rfl := Option.some.inj h; show _ = _; kernel_rfl
  · replace h := ifT h hb2
    try rw [hb2] at h
    conv => lhs; whnf
    try (rw [hb2]; conv => lhs; whnf)
    try (rw [hb2]; conv => lhs; whnf)
    rw [cl_eq hcl (L_spec_l00In a_0.Seq 1 1000000 (pl_l00In a_0.Seq 1 1000000))]
    rotate_left
    · show _ = _; kernel_rfl
    · show _ = _; kernel_rfl
    conv => lhs; whnf
    try (rw [hb2]; conv => lhs; whnf)
    try (rw [hb2]; conv => lhs; whnf)
    cases hb3 : (inR a_0.Seq 1 1000000)
    · replace h := ifF h (booF hb3); conv => lhs; whnf
      obtain rfl := Option.some.inj h; show _ = _; kernel_rfl
    · replace h := ifT h hb3; conv => lhs; whnf
      cases hb4 : (a_0.Kind == 1)
      · replace h := ifF h (beqF hb4); conv => lhs; whnf
        cases hb6 : (a_0.Kind == 2)
        · replace h := ifF h (beqF hb6); conv => lhs; whnf
          cases hb8 : (a_0.Kind == 3)
          · replace h := ifF h (beqF hb8); conv => lhs; whnf
            obtain rfl := Option.some.inj h; show _ = _; kernel_rfl
          · replace h := ifT h (beqT hb8); conv => lhs; whnf
            cases hb9 : (a_0.Value.toList == (⟨#[]⟩ : ByteArray).toList)
            · replace h := ifF h (booF hb9); conv => lhs; whnf
              try (rw [hb9]; conv => lhs; whnf)
              try (rw [hb9]; conv => lhs; whnf)
              try (rw [hb9]; conv => lhs; whnf)
              obtain rfl := Option.some.inj h; show _ = _; kernel_rfl
            · replace h := ifT h hb9; conv => lhs; whnf
              try (rw [hb9]; conv => lhs; whnf)
              try (rw [hb9]; conv => lhs; whnf)
              obtain ⟨y10, h_y10, h⟩ := callK_inv h
              rw [cl_eq hcl (L_spec_l17Key a_0.End h_y10)]
              rotate_left
              · show _ = _; kernel_rfl
              · show _ = _; kernel_rfl
              conv => lhs; whnf
              try (rw [hb9]; conv => lhs; whnf)
              cases hb11 : y10
              · replace h := ifF h (booF hb11); conv => lhs; whnf
                try (rw [hb11]; conv => lhs; whnf)
                try (rw [hb11]; conv => lhs; whnf)
                try (rw [hb11]; conv => lhs; whnf)
                try (rw [hb11]; conv => lhs; whnf)
                try (rw [hb11]; conv => lhs; whnf)
                obtain rfl := Option.some.inj h; show _ = _; kernel_rfl
              · replace h := ifT h hb11; conv => lhs; whnf
                try (rw [hb11]; conv => lhs; whnf)
                try (rw [hb11]; conv => lhs; whnf)
                try (rw [hb11]; conv => lhs; whnf)
                try (rw [hb11]; conv => lhs; whnf)
                try (rw [hb11]; conv => lhs; whnf)
                obtain rfl := Option.some.inj h; show _ = _; kernel_rfl
        · replace h := ifT h (beqT hb6); conv => lhs; whnf
          cases hb7 : (a_0.Value.toList == (⟨#[]⟩ : ByteArray).toList)
          · replace h := ifF h (booF hb7); conv => lhs; whnf
            try (rw [hb7]; conv => lhs; whnf)
            try (rw [hb7]; conv => lhs; whnf)
            try (rw [hb7]; conv => lhs; whnf)
            obtain rfl := Option.some.inj h; show _ = _; kernel_rfl
          · replace h := ifT h hb7; conv => lhs; whnf
            try (rw [hb7]; conv => lhs; whnf)
            try (rw [hb7]; conv => lhs; whnf)
            try (rw [hb7]; conv => lhs; whnf)
            obtain rfl := Option.some.inj h; show _ = _; kernel_rfl
      · replace h := ifT h (beqT hb4); conv => lhs; whnf
        cases hb5 : (decide ((ByteArray.size a_0.Value : Int) ≤ 16))
        · replace h := ifF h (decF hb5); conv => lhs; whnf
          try (rw [hb5]; conv => lhs; whnf)
          try (rw [hb5]; conv => lhs; whnf)
          try (rw [hb5]; conv => lhs; whnf)
          obtain rfl := Option.some.inj h; show _ = _; kernel_rfl
        · replace h := ifT h (decT hb5); conv => lhs; whnf
          try (rw [hb5]; conv => lhs; whnf)
          try (rw [hb5]; conv => lhs; whnf)
          try (rw [hb5]; conv => lhs; whnf)
          obtain rfl := Option.some.inj h; show _ = _; kernel_rfl

noncomputable def p_spec_l17Run (a_0 : List Record) : Option Bool :=
  grd (a_0.length < 4611686018427387904) <|
  forK a_0 (fun (i26 : Nat) x28 (_ : Unit) (nx27 : Unit → Option _) =>
    callK (p_spec_l17Valid x28) fun y29 =>
    if y29 = true then
      if (i26 : Int) > 0 then
        getK a_0 (IntKind.i64.wrap ((i26 : Int) - 1)) fun x32 =>
        callK (p_spec_l17Less x32 x28) fun y33 =>
        if y33 = true then
          grd ((i26 : Int) < 4611686018427387904) <|
          forI (i26 : Int) (fun (i39 : Nat) (_ : Unit) (nx40 : Unit → Option _) =>
            getK a_0 (i39 : Int) fun x41 =>
            if x41.Seq = x28.Seq then
              some false
            else
              nx40 ()) () (fun (_ : Unit) =>
            nx27 ())
        else
          some false
      else
        grd ((i26 : Int) < 4611686018427387904) <|
        forI (i26 : Int) (fun (i47 : Nat) (_ : Unit) (nx48 : Unit → Option _) =>
          getK a_0 (i47 : Int) fun x49 =>
          if x49.Seq = x28.Seq then
            some false
          else
            nx48 ()) () (fun (_ : Unit) =>
          nx27 ())
    else
      some false) () (fun (_ : Unit) =>
    some true)

set_option maxHeartbeats 4000000 in
theorem L_spec_l17Run (a_0 : List Record) {r : Bool} (h : p_spec_l17Run a_0 = some r) : callL E 100 [.d (.arr (a_0.map rRecord))] ([] : Fo) = some (BO r, ([] : Fo)) := by
  unfold p_spec_l17Run at h
  refine callW (fu := Try.f100) rfl rfl rfl NN ?_
  intro lp cl hlp hcl
  conv => lhs; whnf
  obtain ⟨hl_i26, h⟩ := grd_inv h
  refine loop_for hlp (l := a_0) hl_i26 (fun (i26 : Nat) (_ : Unit) => ([.d (.arr (a_0.map rRecord)), .dead, .dead, IN (i26 : Int)] ++ List.replicate 46 .dead : List V)) (fun (i26 : Nat) (_ : Unit) => ([] : Fo)) (fun (r : Bool) => ((BO r : V), ([] : Fo))) ?_ ?_ () _ (fun kk => by kernel_rfl) h
  · clear h
    rintro next_nx27 nx27 i26 hi_i26 hnx27 ⟨⟩ r h
    try dsimp only at h
    have hn_i26 : i26 < 4611686018427387904 := by omega
    have hx_x28 := get_map rRecord a_0 i26 hi_i26
    generalize a_0[i26] = x28 at h hx_x28
    have hd_i26 : (decide ((i26 : Int) < (a_0.length : Int))) = true := decide_eq_true (by omega)
    conv => lhs; whnf
    try rw [len_of (l := a_0) (r := rRecord)]
    rw [hd_i26]
    conv => lhs; whnf
    try (rw [decide_eq_true hq_x28]; conv => lhs; whnf)
    rw [hx_x28]
    conv => lhs; whnf
    rw [hx_x28]
    conv => lhs; whnf
    obtain ⟨y29, h_y29, h⟩ := callK_inv h
    rw [cl_eq hcl (L_spec_l17Valid x28 h_y29)]
    rotate_left
    · show _ = _; kernel_rfl
    · show _ = _; kernel_rfl
    conv => lhs; whnf
    cases hb30 : y29
    · replace h := ifF h (booF hb30); conv => lhs; whnf
      try (rw [hb30]; conv => lhs; whnf)
      try (rw [hb30]; conv => lhs; whnf)
      try (rw [hb30]; conv => lhs; whnf)
      try (rw [hb30]; conv => lhs; whnf)
      obtain rfl := Option.some.inj h; show _ = _; kernel_rfl
    · replace h := ifT h hb30; conv => lhs; whnf
      try (rw [hb30]; conv => lhs; whnf)
      try (rw [hb30]; conv => lhs; whnf)
      cases hb31 : (decide ((i26 : Int) > 0))
      · replace h := ifF h (decF hb31); conv => lhs; whnf
        try (rw [hb31]; conv => lhs; whnf)
        try (rw [hb31]; conv => lhs; whnf)
        try (rw [hb31]; conv => lhs; whnf)
        try (rw [hb31]; conv => lhs; whnf)
        try (rw [hb31]; conv => lhs; whnf)
        try (rw [hb31]; conv => lhs; whnf)
        try (rw [hb31]; conv => lhs; whnf)
        try (rw [hb31]; conv => lhs; whnf)
        try (rw [hb31]; conv => lhs; whnf)
        try (rw [hb31]; conv => lhs; whnf)
        try (rw [hb30]; conv => lhs; whnf)
        try (rw [hb31]; conv => lhs; whnf)
        try (rw [hb30]; conv => lhs; whnf)
        obtain ⟨hl_i47, h⟩ := grd_inv h
        refine loop_forI hlp (n := (i26 : Int)) hl_i47 (fun (i47 : Nat) (_ : Unit) => ([.d (.arr (a_0.map rRecord)), .dead, .dead, IN (i26 : Int), IN (i47 : Int)] ++ List.replicate 45 .dead : List V)) (fun (i47 : Nat) (_ : Unit) => ([] : Fo)) (fun (r : Bool) => ((BO r : V), ([] : Fo))) ?_ ?_ () _ (fun kk => by kernel_rfl) h
        · clear h
          rintro next_nx48 nx48 i47 hi_i47 hnx48 ⟨⟩ r h
          try dsimp only at h
          have hn_i47 : i47 < 4611686018427387904 := by omega
          have hd_i47 : (decide ((i47 : Int) < (i26 : Int))) = true := decide_eq_true (by omega)
          conv => lhs; whnf
          rw [hd_i47]
          conv => lhs; whnf
          obtain ⟨x49, hq_x49, hx_x49', h⟩ := getK_inv h
          have hx_x49 := get_of (r := rRecord) hx_x49'
          try (rw [decide_eq_true hq_x49]; conv => lhs; whnf)
          rw [hx_x49]
          conv => lhs; whnf
          rw [hx_x49]
          conv => lhs; whnf
          try (rw [decide_eq_true hq_x28]; conv => lhs; whnf)
          rw [hx_x28]
          conv => lhs; whnf
          rw [hx_x28]
          conv => lhs; whnf
          cases hb50 : (x49.Seq == x28.Seq)
          · replace h := ifF h (beqF hb50); conv => lhs; whnf
            rw [wrap_nat i47 (by have := hn_i47; omega)]
            exact hnx48 _ _ _ _ (fun kk => by kernel_rfl) h
          · replace h := ifT h (beqT hb50); conv => lhs; whnf
            obtain rfl := Option.some.inj h; show _ = _; kernel_rfl
        · clear h
          rintro next_nx48 ⟨⟩ r h
          try dsimp only at h
          have hd_i47 : (decide (((Int.toNat (i26 : Int)) : Int) < (i26 : Int))) = false := decide_eq_false (by omega)
          conv => lhs; whnf
          rw [hd_i47]
          conv => lhs; whnf
          rw [wrap_nat i26 (by have := hn_i26; omega)]
          exact hnx27 _ _ _ _ (fun kk => by kernel_rfl) h
      · replace h := ifT h (decT hb31); conv => lhs; whnf
        try (rw [hb31]; conv => lhs; whnf)
        try (rw [hb31]; conv => lhs; whnf)
        try (rw [hb31]; conv => lhs; whnf)
        obtain ⟨x32, hq_x32, hx_x32', h⟩ := getK_inv h
        have hx_x32 := get_of (r := rRecord) hx_x32'
        try (rw [decide_eq_true hq_x32]; conv => lhs; whnf)
        rw [hx_x32]
        conv => lhs; whnf
        try (rw [hb31]; conv => lhs; whnf)
        rw [hx_x32]
        conv => lhs; whnf
        try (rw [hb31]; conv => lhs; whnf)
        try (rw [hb31]; conv => lhs; whnf)
        try (rw [hb31]; conv => lhs; whnf)
        try (rw [decide_eq_true hq_x28]; conv => lhs; whnf)
        rw [hx_x28]
        conv => lhs; whnf
        try (rw [hb31]; conv => lhs; whnf)
        rw [hx_x28]
        conv => lhs; whnf
        try (rw [hb31]; conv => lhs; whnf)
        obtain ⟨y33, h_y33, h⟩ := callK_inv h
        rw [cl_eq hcl (L_spec_l17Less x32 x28 h_y33)]
        rotate_left
        · show _ = _; kernel_rfl
        · show _ = _; kernel_rfl
        conv => lhs; whnf
        try (rw [hb31]; conv => lhs; whnf)
        try (rw [hb30]; conv => lhs; whnf)
        try (rw [hb31]; conv => lhs; whnf)
        try (rw [hb30]; conv => lhs; whnf)
        cases hb34 : y33
        · replace h := ifF h (booF hb34); conv => lhs; whnf
          obtain rfl := Option.some.inj h; show _ = _; kernel_rfl
        · replace h := ifT h hb34; conv => lhs; whnf
          obtain ⟨hl_i39, h⟩ := grd_inv h
          refine loop_forI hlp (n := (i26 : Int)) hl_i39 (fun (i39 : Nat) (_ : Unit) => ([.d (.arr (a_0.map rRecord)), .dead, .dead, IN (i26 : Int), IN (i39 : Int)] ++ List.replicate 45 .dead : List V)) (fun (i39 : Nat) (_ : Unit) => ([] : Fo)) (fun (r : Bool) => ((BO r : V), ([] : Fo))) ?_ ?_ () _ (fun kk => by kernel_rfl) h
          · clear h
            rintro next_nx40 nx40 i39 hi_i39 hnx40 ⟨⟩ r h
            try dsimp only at h
            have hn_i39 : i39 < 4611686018427387904 := by omega
            have hd_i39 : (decide ((i39 : Int) < (i26 : Int))) = true := decide_eq_true (by omega)
            conv => lhs; whnf
            rw [hd_i39]
            conv => lhs; whnf
            obtain ⟨x41, hq_x41, hx_x41', h⟩ := getK_inv h
            have hx_x41 := get_of (r := rRecord) hx_x41'
            try (rw [decide_eq_true hq_x41]; conv => lhs; whnf)
            rw [hx_x41]
            conv => lhs; whnf
            rw [hx_x41]
            conv => lhs; whnf
            try (rw [decide_eq_true hq_x28]; conv => lhs; whnf)
            rw [hx_x28]
            conv => lhs; whnf
            rw [hx_x28]
            conv => lhs; whnf
            cases hb42 : (x41.Seq == x28.Seq)
            · replace h := ifF h (beqF hb42); conv => lhs; whnf
              rw [wrap_nat i39 (by have := hn_i39; omega)]
              exact hnx40 _ _ _ _ (fun kk => by kernel_rfl) h
            · replace h := ifT h (beqT hb42); conv => lhs; whnf
              obtain rfl := Option.some.inj h; show _ = _; kernel_rfl
          · clear h
            rintro next_nx40 ⟨⟩ r h
            try dsimp only at h
            have hd_i39 : (decide (((Int.toNat (i26 : Int)) : Int) < (i26 : Int))) = false := decide_eq_false (by omega)
            conv => lhs; whnf
            rw [hd_i39]
            conv => lhs; whnf
            rw [wrap_nat i26 (by have := hn_i26; omega)]
            exact hnx27 _ _ _ _ (fun kk => by kernel_rfl) h
  · clear h
    rintro next_nx27 ⟨⟩ r h
    try dsimp only at h
    have hd_i26 : (decide ((a_0.length : Int) < (a_0.length : Int))) = false := decide_eq_false (by omega)
    conv => lhs; whnf
    try rw [len_of (l := a_0) (r := rRecord)]
    rw [hd_i26]
    conv => lhs; whnf
    obtain rfl := Option.some.inj h; show _ = _; kernel_rfl

noncomputable def p_spec_l17Affects (a_0 : Record) (a_1 : ByteArray) : Option Bool :=
  if a_0.Kind = 3 then
    if ((Op.bytesLess a_0.Key.toList a_1.toList) || (a_0.Key.toList == a_1.toList)) = true then
      some (Op.bytesLess a_1.toList a_0.End.toList)
    else
      some false
  else
    some (a_0.Key.toList == a_1.toList)

set_option maxHeartbeats 4000000 in
theorem L_spec_l17Affects (a_0 : Record) (a_1 : ByteArray) {r : Bool} (h : p_spec_l17Affects a_0 a_1 = some r) : callL E 181 [.agg [ST a_0.Key, IN a_0.Seq, IN a_0.Kind, ST a_0.Value, ST a_0.End], ST a_1] ([] : Fo) = some (BO r, ([] : Fo)) := by
  unfold p_spec_l17Affects at h
  refine callW (fu := Try.f181) rfl rfl rfl NN ?_
  intro lp cl hlp hcl
  conv => lhs; whnf
  cases hb1 : (a_0.Kind == 3)
  · replace h := ifF h (beqF hb1); conv => lhs; whnf
    obtain rfl := Option.some.inj h; show _ = _; kernel_rfl
  · replace h := ifT h (beqT hb1); conv => lhs; whnf
    cases hb2 : ((Op.bytesLess a_0.Key.toList a_1.toList) || (a_0.Key.toList == a_1.toList))
    · replace h := ifF h (booF hb2); conv => lhs; whnf
      try (rw [hb2]; conv => lhs; whnf)
      try (rw [hb2]; conv => lhs; whnf)
      try (rw [hb2]; conv => lhs; whnf)
      try (rw [hb2]; conv => lhs; whnf)
      obtain rfl := Option.some.inj h; show _ = _; kernel_rfl
    · replace h := ifT h hb2; conv => lhs; whnf
      try (rw [hb2]; conv => lhs; whnf)
      try (rw [hb2]; conv => lhs; whnf)
      try (rw [hb2]; conv => lhs; whnf)
      try (rw [hb2]; conv => lhs; whnf)
      obtain rfl := Option.some.inj h; show _ = _; kernel_rfl

noncomputable def p_spec_l17Newest (a_0 : List Record) (a_1 : ByteArray) (a_2 : Int) : Option (Record × Bool) :=
  grd (a_0.length < 4611686018427387904) <|
  forK a_0 (fun (i9 : Nat) x12 (v10 : Record) (nx11 : Record → Option _) =>
    callK (p_spec_l17Affects x12 a_1) fun y13 =>
    if y13 = true then
      if x12.Seq ≤ a_2 then
        if x12.Seq > v10.Seq then
          nx11 x12
        else
          nx11 v10
      else
        nx11 v10
    else
      nx11 v10) (⟨(⟨#[]⟩ : ByteArray), 0, 0, (⟨#[]⟩ : ByteArray), (⟨#[]⟩ : ByteArray)⟩ : Record) (fun (v10 : Record) =>
    some (v10, (decide (v10.Seq > 0))))

set_option maxHeartbeats 4000000 in
theorem L_spec_l17Newest (a_0 : List Record) (a_1 : ByteArray) (a_2 : Int) {r : (Record × Bool)} (h : p_spec_l17Newest a_0 a_1 a_2 = some r) : callL E 274 [.d (.arr (a_0.map rRecord)), ST a_1, IN a_2] ([] : Fo) = some (.tup [.agg [ST r.1.Key, IN r.1.Seq, IN r.1.Kind, ST r.1.Value, ST r.1.End], BO r.2], ([] : Fo)) := by
  unfold p_spec_l17Newest at h
  refine callW (fu := Try.f274) rfl rfl rfl NN ?_
  intro lp cl hlp hcl
  conv => lhs; whnf
  obtain ⟨hl_i9, h⟩ := grd_inv h
  refine loop_for hlp (l := a_0) hl_i9 (fun (i9 : Nat) (v10 : Record) => ([.d (.arr (a_0.map rRecord)), ST a_1, IN a_2, .dead, .dead, .dead, .bp 0 0, .dead, .bp 1 0, IN (i9 : Int)] ++ List.replicate 40 .dead : List V)) (fun (i9 : Nat) (v10 : Record) => ([some (.box [ST (⟨#[]⟩ : ByteArray), IN 0, IN 0, ST (⟨#[]⟩ : ByteArray), ST (⟨#[]⟩ : ByteArray)]), some (.box [ST v10.Key, IN v10.Seq, IN v10.Kind, ST v10.Value, ST v10.End])] : Fo)) (fun (r : (Record × Bool)) => ((.tup [.agg [ST r.1.Key, IN r.1.Seq, IN r.1.Kind, ST r.1.Value, ST r.1.End], BO r.2] : V), ([] : Fo))) ?_ ?_ (⟨(⟨#[]⟩ : ByteArray), 0, 0, (⟨#[]⟩ : ByteArray), (⟨#[]⟩ : ByteArray)⟩ : Record) _ (fun kk => by kernel_rfl) h
  · clear h
    rintro next_nx11 nx11 i9 hi_i9 hnx11 v10 r h
    try dsimp only at h
    have hn_i9 : i9 < 4611686018427387904 := by omega
    have hx_x12 := get_map rRecord a_0 i9 hi_i9
    generalize a_0[i9] = x12 at h hx_x12
    have hd_i9 : (decide ((i9 : Int) < (a_0.length : Int))) = true := decide_eq_true (by omega)
    conv => lhs; whnf
    try rw [len_of (l := a_0) (r := rRecord)]
    rw [hd_i9]
    conv => lhs; whnf
    try (rw [decide_eq_true hq_x12]; conv => lhs; whnf)
    rw [hx_x12]
    conv => lhs; whnf
    rw [hx_x12]
    conv => lhs; whnf
    obtain ⟨y13, h_y13, h⟩ := callK_inv h
    rw [cl_eq hcl (L_spec_l17Affects x12 a_1 h_y13)]
    rotate_left
    · show _ = _; kernel_rfl
    · show _ = _; kernel_rfl
    conv => lhs; whnf
    cases hb14 : y13
    · replace h := ifF h (booF hb14); conv => lhs; whnf
      try (rw [hb14]; conv => lhs; whnf)
      try (rw [hb14]; conv => lhs; whnf)
      try (rw [hb14]; conv => lhs; whnf)
      try (rw [hb14]; conv => lhs; whnf)
      try (rw [hb14]; conv => lhs; whnf)
      try (rw [hb14]; conv => lhs; whnf)
      try (rw [hb14]; conv => lhs; whnf)
      rw [wrap_nat i9 (by have := hn_i9; omega)]
      exact hnx11 _ _ _ _ (fun kk => by kernel_rfl) h
    · replace h := ifT h hb14; conv => lhs; whnf
      try (rw [hb14]; conv => lhs; whnf)
      try (rw [hb14]; conv => lhs; whnf)
      try (rw [decide_eq_true hq_x12]; conv => lhs; whnf)
      rw [hx_x12]
      conv => lhs; whnf
      try (rw [hb14]; conv => lhs; whnf)
      try (rw [hb14]; conv => lhs; whnf)
      rw [hx_x12]
      conv => lhs; whnf
      try (rw [hb14]; conv => lhs; whnf)
      try (rw [hb14]; conv => lhs; whnf)
      try (rw [hb14]; conv => lhs; whnf)
      cases hb15 : (decide (x12.Seq ≤ a_2))
      · replace h := ifF h (decF hb15); conv => lhs; whnf
        try (rw [hb15]; conv => lhs; whnf)
        try (rw [hb15]; conv => lhs; whnf)
        try (rw [hb15]; conv => lhs; whnf)
        try (rw [hb15]; conv => lhs; whnf)
        try (rw [hb15]; conv => lhs; whnf)
        try (rw [hb15]; conv => lhs; whnf)
        try (rw [hb15]; conv => lhs; whnf)
        try (rw [hb15]; conv => lhs; whnf)
        rw [wrap_nat i9 (by have := hn_i9; omega)]
        exact hnx11 _ _ _ _ (fun kk => by kernel_rfl) h
      · replace h := ifT h (decT hb15); conv => lhs; whnf
        try (rw [hb15]; conv => lhs; whnf)
        try (rw [hb15]; conv => lhs; whnf)
        try (rw [decide_eq_true hq_x12]; conv => lhs; whnf)
        rw [hx_x12]
        conv => lhs; whnf
        try (rw [hb15]; conv => lhs; whnf)
        try (rw [hb15]; conv => lhs; whnf)
        rw [hx_x12]
        conv => lhs; whnf
        try (rw [hb15]; conv => lhs; whnf)
        try (rw [hb15]; conv => lhs; whnf)
        try (rw [hb15]; conv => lhs; whnf)
        try (rw [hb15]; conv => lhs; whnf)
        cases hb16 : (decide (x12.Seq > v10.Seq))
        · replace h := ifF h (decF hb16); conv => lhs; whnf
          rw [wrap_nat i9 (by have := hn_i9; omega)]
          exact hnx11 _ _ _ _ (fun kk => by kernel_rfl) h
        · replace h := ifT h (decT hb16); conv => lhs; whnf
          try (rw [decide_eq_true hq_x12]; conv => lhs; whnf)
          rw [hx_x12]
          conv => lhs; whnf
          rw [hx_x12]
          conv => lhs; whnf
          rw [wrap_nat i9 (by have := hn_i9; omega)]
          exact hnx11 _ _ _ _ (fun kk => by kernel_rfl) h
  · clear h
    rintro next_nx11 v10 r h
    try dsimp only at h
    have hd_i9 : (decide ((a_0.length : Int) < (a_0.length : Int))) = false := decide_eq_false (by omega)
    conv => lhs; whnf
    try rw [len_of (l := a_0) (r := rRecord)]
    rw [hd_i9]
    conv => lhs; whnf
    obtain rfl := Option.some.inj h; show _ = _; kernel_rfl

noncomputable def p_spec_l24Get (a_0 : List Record) (a_1 : ByteArray) (a_2 : Int) : Option (ByteArray × Bool) :=
  callK (p_spec_l17Newest a_0 a_1 a_2) fun y1 =>
  if y1.2 = true then
    if ¬ y1.1.Kind = 1 then
      some ((⟨#[]⟩ : ByteArray), false)
    else
      some (y1.1.Value, true)
  else
    some ((⟨#[]⟩ : ByteArray), false)

set_option maxHeartbeats 4000000 in
theorem L_spec_l24Get (a_0 : List Record) (a_1 : ByteArray) (a_2 : Int) {r : (ByteArray × Bool)} (h : p_spec_l24Get a_0 a_1 a_2 = some r) : callL E 206 [.d (.arr (a_0.map rRecord)), ST a_1, IN a_2] ([] : Fo) = some (.tup [ST r.1, BO r.2], ([] : Fo)) := by
  unfold p_spec_l24Get at h
  refine callW (fu := Try.f206) rfl rfl rfl NN ?_
  intro lp cl hlp hcl
  conv => lhs; whnf
  obtain ⟨y1, h_y1, h⟩ := callK_inv h
  rw [cl_eq hcl (L_spec_l17Newest a_0 a_1 a_2 h_y1)]
  rotate_left
  · show _ = _; kernel_rfl
  · show _ = _; kernel_rfl
  conv => lhs; whnf
  cases hb2 : y1.2
  · replace h := ifF h (booF hb2); conv => lhs; whnf
    try (rw [hb2]; conv => lhs; whnf)
    try (rw [hb2]; conv => lhs; whnf)
    try (rw [hb2]; conv => lhs; whnf)
    obtain rfl := Option.some.inj h; show _ = _; kernel_rfl
  · replace h := ifT h hb2; conv => lhs; whnf
    try (rw [hb2]; conv => lhs; whnf)
    try (rw [hb2]; conv => lhs; whnf)
    try (rw [hb2]; conv => lhs; whnf)
    cases hb3 : (y1.1.Kind != 1)
    · replace h := ifF h ((fun h => not_not_intro (bneF h)) hb3); conv => lhs; whnf
      obtain rfl := Option.some.inj h; show _ = _; kernel_rfl
    · replace h := ifT h (bneT hb3); conv => lhs; whnf
      obtain rfl := Option.some.inj h; show _ = _; kernel_rfl

noncomputable def p_spec_l24Visible (a_0 : List Record) (a_1 : ByteArray) (a_2 : ByteArray) (a_3 : Int) : Option (List Pair) :=
  grd (a_0.length < 4611686018427387904) <|
  forK a_0 (fun (i14 : Nat) x18 ((v15, v16) : (ByteArray × (List Pair))) (nx17 : (ByteArray × (List Pair)) → Option _) =>
    if (x18.Key.toList == v15.toList) = true then
      nx17 (v15, v16)
    else
      if (Op.bytesLess x18.Key.toList a_1.toList) = true then
        nx17 (v15, v16)
      else
        if (a_2.toList == (⟨#[]⟩ : ByteArray).toList) = true then
          callK (p_spec_l24Get a_0 x18.Key a_3) fun y22 =>
          if y22.2 = true then
            grd (appOk (v16.length + 1) 32 = true) <|
            nx17 (x18.Key, (v16 ++ ([(⟨x18.Key, y22.1⟩ : Pair)] : List Pair)))
          else
            nx17 (x18.Key, v16)
        else
          if (Op.bytesLess x18.Key.toList a_2.toList) = true then
            callK (p_spec_l24Get a_0 x18.Key a_3) fun y25 =>
            if y25.2 = true then
              grd (appOk (v16.length + 1) 32 = true) <|
              nx17 (x18.Key, (v16 ++ ([(⟨x18.Key, y25.1⟩ : Pair)] : List Pair)))
            else
              nx17 (x18.Key, v16)
          else
            nx17 (v15, v16)) ((⟨#[]⟩ : ByteArray), ([] : List Pair)) (fun ((v15, v16) : (ByteArray × (List Pair))) =>
    some v16)

set_option maxHeartbeats 4000000 in
theorem L_spec_l24Visible (a_0 : List Record) (a_1 : ByteArray) (a_2 : ByteArray) (a_3 : Int) {r : (List Pair)} (h : p_spec_l24Visible a_0 a_1 a_2 a_3 = some r) : callL E 101 [.d (.arr (a_0.map rRecord)), ST a_1, ST a_2, IN a_3] ([] : Fo) = some (.d (.arr (r.map rPair)), ([] : Fo)) := by
  unfold p_spec_l24Visible at h
  refine callW (fu := Try.f101) rfl rfl rfl NN ?_
  intro lp cl hlp hcl
  conv => lhs; whnf
  obtain ⟨hl_i14, h⟩ := grd_inv h
  refine loop_for hlp (l := a_0) hl_i14 (fun (i14 : Nat) ((v15, v16) : (ByteArray × (List Pair))) => ([.d (.arr (a_0.map rRecord)), ST a_1, ST a_2, IN a_3, .dead, .dead, .dead, .dead, .dead, .sl 0, ST v15, IN (i14 : Int)] ++ List.replicate 48 .dead : List V)) (fun (i14 : Nat) ((v15, v16) : (ByteArray × (List Pair))) => ([some (.arr 37 2 (v16.map rPair))] : Fo)) (fun (r : (List Pair)) => ((.d (.arr (r.map rPair)) : V), ([] : Fo))) ?_ ?_ ((⟨#[]⟩ : ByteArray), ([] : List Pair)) _ (fun kk => by kernel_rfl) h
  · clear h
    rintro next_nx17 nx17 i14 hi_i14 hnx17 ⟨v15, v16⟩ r h
    try dsimp only at h
    have hn_i14 : i14 < 4611686018427387904 := by omega
    have hx_x18 := get_map rRecord a_0 i14 hi_i14
    generalize a_0[i14] = x18 at h hx_x18
    have hd_i14 : (decide ((i14 : Int) < (a_0.length : Int))) = true := decide_eq_true (by omega)
    conv => lhs; whnf
    try rw [len_of (l := a_0) (r := rRecord)]
    rw [hd_i14]
    conv => lhs; whnf
    try (rw [decide_eq_true hq_x18]; conv => lhs; whnf)
    rw [hx_x18]
    conv => lhs; whnf
    rw [hx_x18]
    conv => lhs; whnf
    cases hb19 : (x18.Key.toList == v15.toList)
    · replace h := ifF h (booF hb19); conv => lhs; whnf
      try (rw [hb19]; conv => lhs; whnf)
      try (rw [hb19]; conv => lhs; whnf)
      try (rw [hb19]; conv => lhs; whnf)
      cases hb20 : (Op.bytesLess x18.Key.toList a_1.toList)
      · replace h := ifF h (booF hb20); conv => lhs; whnf
        try (rw [hb20]; conv => lhs; whnf)
        try (rw [hb20]; conv => lhs; whnf)
        cases hb21 : (a_2.toList == (⟨#[]⟩ : ByteArray).toList)
        · replace h := ifF h (booF hb21); conv => lhs; whnf
          try (rw [hb21]; conv => lhs; whnf)
          try (rw [hb21]; conv => lhs; whnf)
          try (rw [hb20]; conv => lhs; whnf)
          try (rw [hb21]; conv => lhs; whnf)
          try (rw [hb20]; conv => lhs; whnf)
          cases hb24 : (Op.bytesLess x18.Key.toList a_2.toList)
          · replace h := ifF h (booF hb24); conv => lhs; whnf
            rw [wrap_nat i14 (by have := hn_i14; omega)]
            exact hnx17 _ _ _ _ (fun kk => by kernel_rfl) h
          · replace h := ifT h hb24; conv => lhs; whnf
            obtain ⟨y25, h_y25, h⟩ := callK_inv h
            rw [cl_eq hcl (L_spec_l24Get a_0 x18.Key a_3 h_y25)]
            rotate_left
            · show _ = _; kernel_rfl
            · show _ = _; kernel_rfl
            conv => lhs; whnf
            cases hb26 : y25.2
            · replace h := ifF h (booF hb26); conv => lhs; whnf
              rw [wrap_nat i14 (by have := hn_i14; omega)]
              exact hnx17 _ _ _ _ (fun kk => by kernel_rfl) h
            · replace h := ifT h hb26; conv => lhs; whnf
              obtain ⟨hg27, h⟩ := grd_inv h
              rw [app_eq hg27 ?h1 ?h2]
              case h1 => first | exact rfl | (simp only [List.length_map, List.length_cons, List.length_nil]; done) | (rw [List.length_map]; rfl)
              case h2 => exact rfl
              conv => lhs; whnf
              first | (rw [map_app_of (r := rPair) (l := v16) (m := ([(⟨x18.Key, y25.1⟩ : Pair)] : List Pair)) ?hh]; case hh => exact rfl) | skip
              rw [wrap_nat i14 (by have := hn_i14; omega)]
              exact hnx17 _ _ _ _ (fun kk => by kernel_rfl) h
        · replace h := ifT h hb21; conv => lhs; whnf
          try (rw [hb21]; conv => lhs; whnf)
          try (rw [hb21]; conv => lhs; whnf)
          try (rw [hb20]; conv => lhs; whnf)
          try (rw [hb21]; conv => lhs; whnf)
          try (rw [hb20]; conv => lhs; whnf)
          obtain ⟨y22, h_y22, h⟩ := callK_inv h
          rw [cl_eq hcl (L_spec_l24Get a_0 x18.Key a_3 h_y22)]
          rotate_left
          · show _ = _; kernel_rfl
          · show _ = _; kernel_rfl
          conv => lhs; whnf
          cases hb23 : y22.2
          · replace h := ifF h (booF hb23); conv => lhs; whnf
            rw [wrap_nat i14 (by have := hn_i14; omega)]
            exact hnx17 _ _ _ _ (fun kk => by kernel_rfl) h
          · replace h := ifT h hb23; conv => lhs; whnf
            obtain ⟨hg28, h⟩ := grd_inv h
            rw [app_eq hg28 ?h1 ?h2]
            case h1 => first | exact rfl | (simp only [List.length_map, List.length_cons, List.length_nil]; done) | (rw [List.length_map]; rfl)
            case h2 => exact rfl
            conv => lhs; whnf
            first | (rw [map_app_of (r := rPair) (l := v16) (m := ([(⟨x18.Key, y22.1⟩ : Pair)] : List Pair)) ?hh]; case hh => exact rfl) | skip
            rw [wrap_nat i14 (by have := hn_i14; omega)]
            exact hnx17 _ _ _ _ (fun kk => by kernel_rfl) h
      · replace h := ifT h hb20; conv => lhs; whnf
        try (rw [hb20]; conv => lhs; whnf)
        try (rw [hb20]; conv => lhs; whnf)
        try (rw [hb20]; conv => lhs; whnf)
        try (rw [hb20]; conv => lhs; whnf)
        rw [wrap_nat i14 (by have := hn_i14; omega)]
        exact hnx17 _ _ _ _ (fun kk => by kernel_rfl) h
    · replace h := ifT h hb19; conv => lhs; whnf
      try (rw [hb19]; conv => lhs; whnf)
      try (rw [hb19]; conv => lhs; whnf)
      try (rw [hb19]; conv => lhs; whnf)
      rw [wrap_nat i14 (by have := hn_i14; omega)]
      exact hnx17 _ _ _ _ (fun kk => by kernel_rfl) h
  · clear h
    rintro next_nx17 ⟨v15, v16⟩ r h
    try dsimp only at h
    have hd_i14 : (decide ((a_0.length : Int) < (a_0.length : Int))) = false := decide_eq_false (by omega)
    conv => lhs; whnf
    try rw [len_of (l := a_0) (r := rRecord)]
    rw [hd_i14]
    conv => lhs; whnf
    obtain rfl := Option.some.inj h; show _ = _; kernel_rfl

noncomputable def p_spec_VisibleAt (a_0 : List Record) (a_1 : Int) : Option (List Pair) :=
  callK (p_spec_l17Run a_0) fun y1 =>
  if y1 = true then
    callK (p_spec_l24Visible a_0 (⟨#[]⟩ : ByteArray) (⟨#[]⟩ : ByteArray) a_1) fun y3 =>
    some y3
  else
    some ([] : List Pair)

set_option maxHeartbeats 4000000 in
theorem L_spec_VisibleAt (a_0 : List Record) (a_1 : Int) {r : (List Pair)} (h : p_spec_VisibleAt a_0 a_1 = some r) : callL E 21 [.d (.arr (a_0.map rRecord)), IN a_1] ([] : Fo) = some (.d (.arr (r.map rPair)), ([] : Fo)) := by
  unfold p_spec_VisibleAt at h
  refine callW (fu := Try.f21) rfl rfl rfl NN ?_
  intro lp cl hlp hcl
  conv => lhs; whnf
  obtain ⟨y1, h_y1, h⟩ := callK_inv h
  rw [cl_eq hcl (L_spec_l17Run a_0 h_y1)]
  rotate_left
  · show _ = _; kernel_rfl
  · show _ = _; kernel_rfl
  conv => lhs; whnf
  cases hb2 : y1
  · replace h := ifF h (booF hb2); conv => lhs; whnf
    obtain rfl := Option.some.inj h; show _ = _; kernel_rfl
  · replace h := ifT h hb2; conv => lhs; whnf
    obtain ⟨y3, h_y3, h⟩ := callK_inv h
    rw [cl_eq hcl (L_spec_l24Visible a_0 (⟨#[]⟩ : ByteArray) (⟨#[]⟩ : ByteArray) a_1 h_y3)]
    rotate_left
    · show _ = _; kernel_rfl
    · show _ = _; kernel_rfl
    conv => lhs; whnf
    obtain rfl := Option.some.inj h; show _ = _; kernel_rfl

noncomputable def p_spec_SamePairs (a_0 : List Pair) (a_1 : List Pair) : Option Bool :=
  if ¬ (a_0.length : Int) = (a_1.length : Int) then
    some false
  else
    grd (a_0.length < 4611686018427387904) <|
    forK a_0 (fun (i7 : Nat) x9 (_ : Unit) (nx8 : Unit → Option _) =>
      getK a_1 (i7 : Int) fun x10 =>
      if ((x9.Key.toList == x10.Key.toList) && ((x9.Value.toList == x10.Value.toList) && true)) = true then
        nx8 ()
      else
        some false) () (fun (_ : Unit) =>
      some true)

set_option maxHeartbeats 4000000 in
theorem L_spec_SamePairs (a_0 : List Pair) (a_1 : List Pair) {r : Bool} (h : p_spec_SamePairs a_0 a_1 = some r) : callL E 20 [.d (.arr (a_0.map rPair)), .d (.arr (a_1.map rPair))] ([] : Fo) = some (BO r, ([] : Fo)) := by
  unfold p_spec_SamePairs at h
  refine callW (fu := Try.f20) rfl rfl rfl NN ?_
  intro lp cl hlp hcl
  conv => lhs; whnf
  try rw [len_of (l := a_0) (r := rPair)]
  try rw [len_of (l := a_1) (r := rPair)]
  cases hb1 : ((a_0.length : Int) != (a_1.length : Int))
  · replace h := ifF h ((fun h => not_not_intro (bneF h)) hb1); conv => lhs; whnf
    obtain ⟨hl_i7, h⟩ := grd_inv h
    refine loop_for hlp (l := a_0) hl_i7 (fun (i7 : Nat) (_ : Unit) => ([.d (.arr (a_0.map rPair)), .d (.arr (a_1.map rPair)), .dead, .dead, .dead, IN (i7 : Int)] ++ List.replicate 20 .dead : List V)) (fun (i7 : Nat) (_ : Unit) => ([] : Fo)) (fun (r : Bool) => ((BO r : V), ([] : Fo))) ?_ ?_ () _ (fun kk => by kernel_rfl) h
    · clear h
      rintro next_nx8 nx8 i7 hi_i7 hnx8 ⟨⟩ r h
      try dsimp only at h
      have hn_i7 : i7 < 4611686018427387904 := by omega
      have hx_x9 := get_map rPair a_0 i7 hi_i7
      generalize a_0[i7] = x9 at h hx_x9
      have hd_i7 : (decide ((i7 : Int) < (a_0.length : Int))) = true := decide_eq_true (by omega)
      conv => lhs; whnf
      try rw [len_of (l := a_0) (r := rPair)]
      rw [hd_i7]
      conv => lhs; whnf
      try (rw [decide_eq_true hq_x9]; conv => lhs; whnf)
      rw [hx_x9]
      conv => lhs; whnf
      rw [hx_x9]
      conv => lhs; whnf
      obtain ⟨x10, hq_x10, hx_x10', h⟩ := getK_inv h
      have hx_x10 := get_of (r := rPair) hx_x10'
      try (rw [decide_eq_true hq_x10]; conv => lhs; whnf)
      rw [hx_x10]
      conv => lhs; whnf
      rw [hx_x10]
      conv => lhs; whnf
      cases hb11 : ((x9.Key.toList == x10.Key.toList) && ((x9.Value.toList == x10.Value.toList) && true))
      · replace h := ifF h (booF hb11); conv => lhs; whnf
        obtain rfl := Option.some.inj h; show _ = _; kernel_rfl
      · replace h := ifT h hb11; conv => lhs; whnf
        rw [wrap_nat i7 (by have := hn_i7; omega)]
        exact hnx8 _ _ _ _ (fun kk => by kernel_rfl) h
    · clear h
      rintro next_nx8 ⟨⟩ r h
      try dsimp only at h
      have hd_i7 : (decide ((a_0.length : Int) < (a_0.length : Int))) = false := decide_eq_false (by omega)
      conv => lhs; whnf
      try rw [len_of (l := a_0) (r := rPair)]
      rw [hd_i7]
      conv => lhs; whnf
      obtain rfl := Option.some.inj h; show _ = _; kernel_rfl
  · replace h := ifT h (bneT hb1); conv => lhs; whnf
    obtain rfl := Option.some.inj h; show _ = _; kernel_rfl

noncomputable def p_impl_GetVisible (a_0 : List Record) (a_1 : ByteArray) (a_2 : Int) : Option (ByteArray × Bool) :=
  callK (p_impl_ValidRun a_0) fun y1 =>
  if y1 = true then
    callK (p_impl_ValidKey a_1) fun y3 =>
    if y3 = true then
      callK (p_impl_visible a_0 a_1 a_2) fun y5 =>
      if y5.2 = true then
        some (y5.1, true)
      else
        some ((⟨#[]⟩ : ByteArray), false)
    else
      some ((⟨#[]⟩ : ByteArray), false)
  else
    some ((⟨#[]⟩ : ByteArray), false)

set_option maxHeartbeats 4000000 in
theorem L_impl_GetVisible (a_0 : List Record) (a_1 : ByteArray) (a_2 : Int) {r : (ByteArray × Bool)} (h : p_impl_GetVisible a_0 a_1 a_2 = some r) : callL E 23 [.d (.arr (a_0.map rRecord)), ST a_1, IN a_2] ([] : Fo) = some (.tup [ST r.1, BO r.2], ([] : Fo)) := by
  unfold p_impl_GetVisible at h
  refine callW (fu := Try.f23) rfl rfl rfl NN ?_
  intro lp cl hlp hcl
  conv => lhs; whnf
  obtain ⟨y1, h_y1, h⟩ := callK_inv h
  rw [cl_eq hcl (L_impl_ValidRun a_0 h_y1)]
  rotate_left
  · show _ = _; kernel_rfl
  · show _ = _; kernel_rfl
  conv => lhs; whnf
  cases hb2 : y1
  · replace h := ifF h (booF hb2); conv => lhs; whnf
    try (rw [hb2]; conv => lhs; whnf)
    try (rw [hb2]; conv => lhs; whnf)
    try (rw [hb2]; conv => lhs; whnf)
    obtain rfl := Option.some.inj h; show _ = _; kernel_rfl
  · replace h := ifT h hb2; conv => lhs; whnf
    try (rw [hb2]; conv => lhs; whnf)
    obtain ⟨y3, h_y3, h⟩ := callK_inv h
    rw [cl_eq hcl (L_impl_ValidKey a_1 h_y3)]
    rotate_left
    · show _ = _; kernel_rfl
    · show _ = _; kernel_rfl
    conv => lhs; whnf
    try (rw [hb2]; conv => lhs; whnf)
    try (rw [hb2]; conv => lhs; whnf)
    cases hb4 : y3
    · replace h := ifF h (booF hb4); conv => lhs; whnf
      obtain rfl := Option.some.inj h; show _ = _; kernel_rfl
    · replace h := ifT h hb4; conv => lhs; whnf
      obtain ⟨y5, h_y5, h⟩ := callK_inv h
      rw [cl_eq hcl (L_impl_visible a_0 a_1 a_2 h_y5)]
      rotate_left
      · show _ = _; kernel_rfl
      · show _ = _; kernel_rfl
      conv => lhs; whnf
      cases hb6 : y5.2
      · replace h := ifF h (booF hb6); conv => lhs; whnf
        obtain rfl := Option.some.inj h; show _ = _; kernel_rfl
      · replace h := ifT h hb6; conv => lhs; whnf
        obtain rfl := Option.some.inj h; show _ = _; kernel_rfl

noncomputable def p_laws_FnVisible (a_0 : List Int) : Option Bool :=
  if (a_0.length : Int) > 400 then
    some true
  else
    callK (p_spec_A8Run a_0 12) fun y2 =>
    callK (p_laws_a8At a_0 17 30) fun y3 =>
    iterK (fun ((v4, v5) : ((List Pair) × Int)) (nx6 : ((List Pair) × Int) → Option _) =>
      if v5 ≤ y3 then
        grd (y2.length < 4611686018427387904) <|
        forK y2 (fun (i15 : Nat) x18 (v16 : List Pair) (nx17 : (List Pair) → Option _) =>
          if x18.Seq = v5 then
            callK (p_impl_ApplyRecord v16 x18) fun y20 =>
            if ¬ y20.2 = 0 then
              some false
            else
              nx17 y20.1
          else
            nx17 v16) v4 (fun (v16 : List Pair) =>
          nx6 (v16, (IntKind.i64.wrap (v5 + 1))))
      else
        callK (p_impl_VisibleAt y2 y3) fun y22 =>
        callK (p_impl_SamePairs y22 v4) fun y23 =>
        if y23 = true then
          callK (p_spec_VisibleAt y2 y3) fun y25 =>
          callK (p_spec_SamePairs y22 y25) fun y26 =>
          if y26 = true then
            callK (p_impl_ScanVisible y2 (⟨#[98]⟩ : ByteArray) (⟨#[100]⟩ : ByteArray) y3) fun y28 =>
            grd (y22.length < 4611686018427387904) <|
            forK y22 (fun (i41 : Nat) x44 (v42 : Int) (nx43 : Int → Option _) =>
              callK (p_impl_GetVisible y2 x44.Key y3) fun y45 =>
              if y45.2 = true then
                if (y45.1.toList == x44.Value.toList) = true then
                  if (Op.bytesLess x44.Key.toList (⟨#[98]⟩ : ByteArray).toList) = true then
                    nx43 v42
                  else
                    if (Op.bytesLess x44.Key.toList (⟨#[100]⟩ : ByteArray).toList) = true then
                      if v42 ≥ (y28.length : Int) then
                        some false
                      else
                        getK y28 v42 fun x51 =>
                        if ((x51.Key.toList == x44.Key.toList) && ((x51.Value.toList == x44.Value.toList) && true)) = true then
                          nx43 (IntKind.i64.wrap (v42 + 1))
                        else
                          some false
                    else
                      nx43 v42
                else
                  some false
              else
                some false) 0 (fun (v42 : Int) =>
              some (v42 == (y28.length : Int)))
          else
            some false
        else
          some false) NN (([] : List Pair), 1)

set_option maxHeartbeats 4000000 in
theorem L_laws_FnVisible (a_0 : List Int) {r : Bool} (h : p_laws_FnVisible a_0 = some r) : callL E 3 [.d (.arr (a_0.map rU))] ([] : Fo) = some (BO r, ([] : Fo)) := by
  unfold p_laws_FnVisible at h
  refine callW (fu := Try.f3) rfl rfl rfl NN ?_
  intro lp cl hlp hcl
  conv => lhs; whnf
  try rw [len_of (l := a_0) (r := rU)]
  cases hb1 : (decide ((a_0.length : Int) > 400))
  · replace h := ifF h (decF hb1); conv => lhs; whnf
    obtain ⟨y2, h_y2, h⟩ := callK_inv h
    rw [cl_eq hcl (L_spec_A8Run a_0 12 h_y2)]
    rotate_left
    · show _ = _; kernel_rfl
    · show _ = _; kernel_rfl
    conv => lhs; whnf
    obtain ⟨y3, h_y3, h⟩ := callK_inv h
    rw [cl_eq hcl (L_laws_a8At a_0 17 30 h_y3)]
    rotate_left
    · show _ = _; kernel_rfl
    · show _ = _; kernel_rfl
    conv => lhs; whnf
    refine loop_iter hlp (fun ((v4, v5) : ((List Pair) × Int)) => ([.dead, .dead, .dead, .d (.arr (y2.map rRecord)), IN y3, .d (.arr (v4.map rPair)), IN v5] ++ List.replicate 128 .dead : List V)) (fun ((v4, v5) : ((List Pair) × Int)) => ([] : Fo)) (fun (r : Bool) => ((BO r : V), ([] : Fo))) ?_ (([] : List Pair), 1) _ (fun kk => by kernel_rfl) h
    clear h
    rintro next_nx6 nx6 hnx6 ⟨v4, v5⟩ r h
    try dsimp only at h
    conv => lhs; whnf
    cases hb7 : (decide (v5 ≤ y3))
    · replace h := ifF h (decF hb7); conv => lhs; whnf
      obtain ⟨y22, h_y22, h⟩ := callK_inv h
      rw [cl_eq hcl (L_impl_VisibleAt y2 y3 h_y22)]
      rotate_left
      · show _ = _; kernel_rfl
      · show _ = _; kernel_rfl
      conv => lhs; whnf
      obtain ⟨y23, h_y23, h⟩ := callK_inv h
      rw [cl_eq hcl (L_impl_SamePairs y22 v4 h_y23)]
      rotate_left
      · show _ = _; kernel_rfl
      · show _ = _; kernel_rfl
      conv => lhs; whnf
      cases hb24 : y23
      · replace h := ifF h (booF hb24); conv => lhs; whnf
        try (rw [hb24]; conv => lhs; whnf)
        try (rw [hb24]; conv => lhs; whnf)
        try (rw [hb24]; conv => lhs; whnf)
        try (rw [hb24]; conv => lhs; whnf)
        try (rw [hb24]; conv => lhs; whnf)
        try (rw [hb24]; conv => lhs; whnf)
        obtain rfl := Option.some.inj h; show _ = _; kernel_rfl
      · replace h := ifT h hb24; conv => lhs; whnf
        try (rw [hb24]; conv => lhs; whnf)
        try (rw [hb24]; conv => lhs; whnf)
        try (rw [hb24]; conv => lhs; whnf)
        obtain ⟨y25, h_y25, h⟩ := callK_inv h
        rw [cl_eq hcl (L_spec_VisibleAt y2 y3 h_y25)]
        rotate_left
        · show _ = _; kernel_rfl
        · show _ = _; kernel_rfl
        conv => lhs; whnf
        try (rw [hb24]; conv => lhs; whnf)
        obtain ⟨y26, h_y26, h⟩ := callK_inv h
        rw [cl_eq hcl (L_spec_SamePairs y22 y25 h_y26)]
        rotate_left
        · show _ = _; kernel_rfl
        · show _ = _; kernel_rfl
        conv => lhs; whnf
        try (rw [hb24]; conv => lhs; whnf)
        try (rw [hb24]; conv => lhs; whnf)
        cases hb27 : y26
        · replace h := ifF h (booF hb27); conv => lhs; whnf
          obtain rfl := Option.some.inj h; show _ = _; kernel_rfl
        · replace h := ifT h hb27; conv => lhs; whnf
          obtain ⟨y28, h_y28, h⟩ := callK_inv h
          rw [cl_eq hcl (L_impl_ScanVisible y2 (⟨#[98]⟩ : ByteArray) (⟨#[100]⟩ : ByteArray) y3 h_y28)]
          rotate_left
          · show _ = _; kernel_rfl
          · show _ = _; kernel_rfl
          conv => lhs; whnf
          obtain ⟨hl_i41, h⟩ := grd_inv h
          refine loop_for hlp (l := y22) hl_i41 (fun (i41 : Nat) (v42 : Int) => ([.dead, .dead, .dead, .d (.arr (y2.map rRecord)), IN y3, .dead, .dead, .dead, .dead, .dead, .d (.arr (y22.map rPair)), .d (.arr (y28.map rPair)), IN v42, IN (i41 : Int)] ++ List.replicate 121 .dead : List V)) (fun (i41 : Nat) (v42 : Int) => ([] : Fo)) (fun (r : Bool) => ((BO r : V), ([] : Fo))) ?_ ?_ 0 _ (fun kk => by kernel_rfl) h
          · clear h
            rintro next_nx43 nx43 i41 hi_i41 hnx43 v42 r h
            try dsimp only at h
            have hn_i41 : i41 < 4611686018427387904 := by omega
            have hx_x44 := get_map rPair y22 i41 hi_i41
            generalize y22[i41] = x44 at h hx_x44
            have hd_i41 : (decide ((i41 : Int) < (y22.length : Int))) = true := decide_eq_true (by omega)
            conv => lhs; whnf
            try rw [len_of (l := y22) (r := rPair)]
            rw [hd_i41]
            conv => lhs; whnf
            try (rw [decide_eq_true hq_x44]; conv => lhs; whnf)
            rw [hx_x44]
            conv => lhs; whnf
            rw [hx_x44]
            conv => lhs; whnf
            obtain ⟨y45, h_y45, h⟩ := callK_inv h
            rw [cl_eq hcl (L_impl_GetVisible y2 x44.Key y3 h_y45)]
            rotate_left
            · show _ = _; kernel_rfl
            · show _ = _; kernel_rfl
            conv => lhs; whnf
            cases hb46 : y45.2
            · replace h := ifF h (booF hb46); conv => lhs; whnf
              try (rw [hb46]; conv => lhs; whnf)
              try (rw [hb46]; conv => lhs; whnf)
              try (rw [hb46]; conv => lhs; whnf)
              try (rw [hb46]; conv => lhs; whnf)
              try (rw [hb46]; conv => lhs; whnf)
              try (rw [hb46]; conv => lhs; whnf)
              try (rw [hb46]; conv => lhs; whnf)
              obtain rfl := Option.some.inj h; show _ = _; kernel_rfl
            · replace h := ifT h hb46; conv => lhs; whnf
              try (rw [hb46]; conv => lhs; whnf)
              try (rw [hb46]; conv => lhs; whnf)
              try (rw [hb46]; conv => lhs; whnf)
              try (rw [decide_eq_true hq_x44]; conv => lhs; whnf)
              rw [hx_x44]
              conv => lhs; whnf
              try (rw [hb46]; conv => lhs; whnf)
              try (rw [hb46]; conv => lhs; whnf)
              rw [hx_x44]
              conv => lhs; whnf
              try (rw [hb46]; conv => lhs; whnf)
              try (rw [hb46]; conv => lhs; whnf)
              cases hb47 : (y45.1.toList == x44.Value.toList)
              · replace h := ifF h (booF hb47); conv => lhs; whnf
                obtain rfl := Option.some.inj h; show _ = _; kernel_rfl
              · replace h := ifT h hb47; conv => lhs; whnf
                try (rw [decide_eq_true hq_x44]; conv => lhs; whnf)
                rw [hx_x44]
                conv => lhs; whnf
                rw [hx_x44]
                conv => lhs; whnf
                cases hb48 : (Op.bytesLess x44.Key.toList (⟨#[98]⟩ : ByteArray).toList)
                · replace h := ifF h (booF hb48); conv => lhs; whnf
                  try (rw [hb48]; conv => lhs; whnf)
                  try (rw [hb48]; conv => lhs; whnf)
                  try (rw [decide_eq_true hq_x44]; conv => lhs; whnf)
                  rw [hx_x44]
                  conv => lhs; whnf
                  try (rw [hb48]; conv => lhs; whnf)
                  try (rw [hb48]; conv => lhs; whnf)
                  rw [hx_x44]
                  conv => lhs; whnf
                  try (rw [hb48]; conv => lhs; whnf)
                  try (rw [hb48]; conv => lhs; whnf)
                  cases hb49 : (Op.bytesLess x44.Key.toList (⟨#[100]⟩ : ByteArray).toList)
                  · replace h := ifF h (booF hb49); conv => lhs; whnf
                    rw [wrap_nat i41 (by have := hn_i41; omega)]
                    exact hnx43 _ _ _ _ (fun kk => by kernel_rfl) h
                  · replace h := ifT h hb49; conv => lhs; whnf
                    try rw [len_of (l := y28) (r := rPair)]
                    cases hb50 : (decide (v42 ≥ (y28.length : Int)))
                    · replace h := ifF h (decF hb50); conv => lhs; whnf
                      try (rw [hb50]; conv => lhs; whnf)
                      try (rw [hb50]; conv => lhs; whnf)
                      obtain ⟨x51, hq_x51, hx_x51', h⟩ := getK_inv h
                      have hx_x51 := get_of (r := rPair) hx_x51'
                      try (rw [decide_eq_true hq_x51]; conv => lhs; whnf)
                      rw [hx_x51]
                      conv => lhs; whnf
                      try (rw [hb50]; conv => lhs; whnf)
                      rw [hx_x51]
                      conv => lhs; whnf
                      try (rw [hb50]; conv => lhs; whnf)
                      try (rw [hb50]; conv => lhs; whnf)
                      try (rw [hb50]; conv => lhs; whnf)
                      try (rw [decide_eq_true hq_x44]; conv => lhs; whnf)
                      rw [hx_x44]
                      conv => lhs; whnf
                      try (rw [hb50]; conv => lhs; whnf)
                      rw [hx_x44]
                      conv => lhs; whnf
                      try (rw [hb50]; conv => lhs; whnf)
                      try (rw [hb50]; conv => lhs; whnf)
                      cases hb52 : ((x51.Key.toList == x44.Key.toList) && ((x51.Value.toList == x44.Value.toList) && true))
                      · replace h := ifF h (booF hb52); conv => lhs; whnf
                        obtain rfl := Option.some.inj h; show _ = _; kernel_rfl
                      · replace h := ifT h hb52; conv => lhs; whnf
                        rw [wrap_nat i41 (by have := hn_i41; omega)]
                        exact hnx43 _ _ _ _ (fun kk => by kernel_rfl) h
                    · replace h := ifT h (decT hb50); conv => lhs; whnf
                      try (rw [hb50]; conv => lhs; whnf)
                      try (rw [hb50]; conv => lhs; whnf)
                      try (rw [hb50]; conv => lhs; whnf)
                      try (rw [hb50]; conv => lhs; whnf)
                      try (rw [hb50]; conv => lhs; whnf)
                      try (rw [hb50]; conv => lhs; whnf)
                      try (rw [hb50]; conv => lhs; whnf)
                      try (rw [hb50]; conv => lhs; whnf)
                      try (rw [hb50]; conv => lhs; whnf)
                      obtain rfl := Option.some.inj h; show _ = _; kernel_rfl
                · replace h := ifT h hb48; conv => lhs; whnf
                  try (rw [hb48]; conv => lhs; whnf)
                  try (rw [hb48]; conv => lhs; whnf)
                  try (rw [hb48]; conv => lhs; whnf)
                  try (rw [hb48]; conv => lhs; whnf)
                  try (rw [hb48]; conv => lhs; whnf)
                  try (rw [hb48]; conv => lhs; whnf)
                  rw [wrap_nat i41 (by have := hn_i41; omega)]
                  exact hnx43 _ _ _ _ (fun kk => by kernel_rfl) h
          · clear h
            rintro next_nx43 v42 r h
            try dsimp only at h
            have hd_i41 : (decide ((y22.length : Int) < (y22.length : Int))) = false := decide_eq_false (by omega)
            conv => lhs; whnf
            try rw [len_of (l := y22) (r := rPair)]
            rw [hd_i41]
            conv => lhs; whnf
            try rw [len_of (l := y28) (r := rPair)]
            obtain rfl := Option.some.inj h; show _ = _; kernel_rfl
    · replace h := ifT h (decT hb7); conv => lhs; whnf
      obtain ⟨hl_i15, h⟩ := grd_inv h
      refine loop_for hlp (l := y2) hl_i15 (fun (i15 : Nat) (v16 : List Pair) => ([.dead, .dead, .dead, .d (.arr (y2.map rRecord)), IN y3, .d (.arr (v16.map rPair)), IN v5, IN (i15 : Int)] ++ List.replicate 127 .dead : List V)) (fun (i15 : Nat) (v16 : List Pair) => ([] : Fo)) (fun (r : Bool) => ((BO r : V), ([] : Fo))) ?_ ?_ v4 _ (fun kk => by kernel_rfl) h
      · clear h
        rintro next_nx17 nx17 i15 hi_i15 hnx17 v16 r h
        try dsimp only at h
        have hn_i15 : i15 < 4611686018427387904 := by omega
        have hx_x18 := get_map rRecord y2 i15 hi_i15
        generalize y2[i15] = x18 at h hx_x18
        have hd_i15 : (decide ((i15 : Int) < (y2.length : Int))) = true := decide_eq_true (by omega)
        conv => lhs; whnf
        try rw [len_of (l := y2) (r := rRecord)]
        rw [hd_i15]
        conv => lhs; whnf
        try (rw [decide_eq_true hq_x18]; conv => lhs; whnf)
        rw [hx_x18]
        conv => lhs; whnf
        rw [hx_x18]
        conv => lhs; whnf
        cases hb19 : (x18.Seq == v5)
        · replace h := ifF h (beqF hb19); conv => lhs; whnf
          rw [wrap_nat i15 (by have := hn_i15; omega)]
          exact hnx17 _ _ _ _ (fun kk => by kernel_rfl) h
        · replace h := ifT h (beqT hb19); conv => lhs; whnf
          try (rw [decide_eq_true hq_x18]; conv => lhs; whnf)
          rw [hx_x18]
          conv => lhs; whnf
          rw [hx_x18]
          conv => lhs; whnf
          obtain ⟨y20, h_y20, h⟩ := callK_inv h
          rw [cl_eq hcl (L_impl_ApplyRecord v16 x18 h_y20)]
          rotate_left
          · show _ = _; kernel_rfl
          · show _ = _; kernel_rfl
          conv => lhs; whnf
          cases hb21 : (y20.2 != 0)
          · replace h := ifF h ((fun h => not_not_intro (bneF h)) hb21); conv => lhs; whnf
            rw [wrap_nat i15 (by have := hn_i15; omega)]
            exact hnx17 _ _ _ _ (fun kk => by kernel_rfl) h
          · replace h := ifT h (bneT hb21); conv => lhs; whnf
            obtain rfl := Option.some.inj h; show _ = _; kernel_rfl
      · clear h
        rintro next_nx17 v16 r h
        try dsimp only at h
        have hd_i15 : (decide ((y2.length : Int) < (y2.length : Int))) = false := decide_eq_false (by omega)
        conv => lhs; whnf
        try rw [len_of (l := y2) (r := rRecord)]
        rw [hd_i15]
        conv => lhs; whnf
        exact hnx6 _ _ _ _ (fun kk => by kernel_rfl) h
  · replace h := ifT h (decT hb1); conv => lhs; whnf
    obtain rfl := Option.some.inj h; show _ = _; kernel_rfl
/-- slices.DeleteFunc, as it is printed for a condition f; z is the element that fills the end. -/
noncomputable def delF {α : Type} (z : α) (f : α → Option Bool) (a_0 : List α) : Option (List α) :=
  callK (grd (a_0.length < 4611686018427387904) <| forK a_0 (fun (i6 : Nat) x8 (_ : Unit) (nx7 : Unit → Option _) => callK (f x8) fun y9 => if y9 = true then some (i6 : Int) else nx7 ()) () (fun (_ : Unit) => some (-1))) fun y1 =>
  if y1 = (-1) then
    some a_0
  else
    iterK (fun ((v3, v4, v5) : (Int × Int × (List α))) (nx6 : (Int × Int × (List α)) → Option _) =>
      if v4 < (v5.length : Int) then
        getK v5 v4 fun x8 =>
        callK (f x8) fun y9 =>
        if y9 = true then
          nx6 (v3, (IntKind.i64.wrap (v4 + 1)), v5)
        else
          getK v5 v3 fun x11 =>
          nx6 ((IntKind.i64.wrap (v3 + 1)), (IntKind.i64.wrap (v4 + 1)), (v5.set (Int.toNat v3) x8))
      else
        grd (0 ≤ v3 ∧ v3 < (v5.length : Int)) <|
        grd (0 ≤ v3 ∧ v3 ≤ ((v5.take (Int.toNat v3) ++ List.replicate (v5.length - (Int.toNat v3)) z).length : Int)) <|
        some ((v5.take (Int.toNat v3) ++ List.replicate (v5.length - (Int.toNat v3)) z).take (Int.toNat v3))) NN (y1, (IntKind.i64.wrap (y1 + 1)), a_0)
theorem forGo_congr {α σ R : Type} {f g : Nat → α → σ → (σ → Option R) → Option R} {k : σ → Option R} : ∀ (l : List α) (i : Nat) (s : σ), (∀ x ∈ l, ∀ i s nx, f i x s nx = g i x s nx) → forGo f k i l s = forGo g k i l s
  | [], i, s, h => rfl
  | x :: l, i, s, h => by
    rw [forGo_cons, forGo_cons, h x (by simp), show forGo f k (i + 1) l = forGo g k (i + 1) l from funext fun s => forGo_congr l (i + 1) s fun y hy => h y (by simp [hy])]
theorem idx_mem {α : Type} {f : α → Option Bool} {p : α → Bool} (l : List α) (hp : ∀ x ∈ l, f x = some (p x)) :
    forK l (fun (i : Nat) x (s : Unit) nx => callK (f x) fun y => if y = true then some (i : Int) else nx s) () (fun _ => some (-1)) = some (idxP p l) := by
  refine Eq.trans ?_ (forK_idx (f := fun x => some (p x)) (p := p) (fun x => rfl) l)
  exact forGo_congr l 0 () fun x hx i s nx => by rw [hp x hx]
/-- What is left: those for which the condition is false. -/
theorem delF_ok {α : Type} (z : α) {f : α → Option Bool} {p : α → Bool} (l : List α) (hl : l.length ≤ 1000000) (hp : ∀ x ∈ l, f x = some (p x)) : delF z f l = some (l.filter fun x => !p x) := by
  unfold delF
  rw [grd_pos (by omega), idx_mem l hp, callK_some]
  unfold idxP
  cases hi : l.findIdx? p with
  | none =>
    rw [List.findIdx?_eq_none_iff] at hi
    rw [if_pos rfl]
    congr 1
    refine (List.filter_eq_self.mpr fun x hx => ?_).symm
    simp [hi x hx]
  | some j =>
    obtain ⟨hj, h1, h2⟩ := List.findIdx?_eq_some_iff_getElem.mp hi
    dsimp only
    rw [if_neg (by omega), wrap_sm _ (by omega) (by omega)]
    have hfj : (l.take (j + 1)).filter (fun x => !p x) = l.take j := by
      rw [List.take_succ_eq_append_getElem hj, List.filter_append]
      have a : (l.take j).filter (fun x => !p x) = l.take j := List.filter_eq_self.mpr fun x hx => by
        obtain ⟨i, hi1, rfl⟩ := List.mem_take_iff_getElem.mp hx
        have := h2 i (by omega)
        simpa using this
      rw [a]; simp [h1]
    refine iterK_rule (fun d (s : Int × Int × List α) => ∃ w r : Nat, s.1 = w ∧ s.2.1 = r ∧ w < r ∧ r ≤ l.length ∧ d = l.length - r ∧ s.2.2.length = l.length ∧ s.2.2.take w = (l.take r).filter (fun x => !p x) ∧ s.2.2.drop r = l.drop r) ?_ (l.length - (j + 1)) _ (by unfold NN; omega)
      ⟨j, j + 1, rfl, by dsimp only; omega, by omega, by omega, rfl, rfl, hfj.symm, rfl⟩
    rintro d ⟨v3, v4, v5⟩ ⟨w, r, e1, e2, e3, e4, e5, e6, e7, e8⟩ nx hnx
    dsimp only at e1 e2 e6 e7 e8 hnx ⊢
    subst e1 e2
    have hfl : ((l.take r).filter (fun x => !p x)).length = w := by
      rw [← e7, List.length_take]; omega
    by_cases hr : r < l.length
    · have hx : v5[r]'(by omega) = l[r] := by
        have a := congrArg (fun t => t[0]?) e8
        simp [hr, e6] at a
        exact a
      rw [if_pos (by omega), getK_lt (by omega), hx, hp _ (List.getElem_mem hr), callK_some]
      have hs : (l.take (r + 1)).filter (fun x => !p x) = (l.take r).filter (fun x => !p x) ++ (if p l[r] = true then [] else [l[r]]) := by
        rw [List.take_succ_eq_append_getElem hr, List.filter_append]
        congr 1
        cases hq : p l[r] <;> simp [hq]
      have hd : ∀ u : List α, u.length = l.length → u.drop r = l.drop r → u.drop (r + 1) = l.drop (r + 1) := fun u _ h => by
        have := congrArg (List.drop 1) h
        simpa [List.drop_drop] using this
      by_cases hq : p l[r] = true
      · rw [if_pos hq, wrap_sm _ (by omega) (by omega)]
        exact hnx _ _ (by omega) ⟨w, r + 1, rfl, by dsimp only; omega, by omega, by omega, rfl, e6, by dsimp only; rw [hs, if_pos hq, List.append_nil, e7], hd _ e6 e8⟩
      · rw [if_neg hq, getK_lt (by omega), wrap_sm _ (by omega) (by omega), wrap_sm _ (by omega) (by omega), Int.toNat_natCast]
        refine hnx (l.length - (r + 1)) _ (by omega) ⟨w + 1, r + 1, by dsimp only; omega, by dsimp only; omega, by omega, by omega, rfl, by simpa using e6, ?_, ?_⟩
        · dsimp only
          rw [hs, if_neg hq, ← e7, List.take_succ_eq_append_getElem (by simp; omega), List.take_set_of_le (by omega)]
          simp
        · dsimp only
          rw [List.drop_set_of_lt (by omega)]
          exact hd _ e6 e8
    · have hrl : r = l.length := by omega
      subst hrl
      rw [if_neg (by omega), grd_pos (by omega), grd_pos (by simp; omega), Int.toNat_natCast, List.take_append_of_le_length (by simp; omega), List.take_take, Nat.min_self, e7, List.take_length]

/-! ### slices.Compact -/
/-- A list with what equals the one before it left out. -/
noncomputable def cptG {α : Type} : α → List α → List α
  | _, [] => []
  | last, x :: l => @ite _ (x = last) (Classical.propDecidable _) (cptG last l) (x :: cptG x l)
noncomputable def cpt {α : Type} : List α → List α
  | [] => []
  | x :: l => x :: cptG x l
theorem cptG_snoc {α : Type} (x : α) : ∀ (m : List α) (last : α), cptG last (m ++ [x]) = @ite _ (m.getLast?.getD last = x) (Classical.propDecidable _) (cptG last m) (cptG last m ++ [x])
  | [], last => by
    by_cases h : last = x
    · subst h; simp [cptG]
    · simp [cptG, h, Ne.symm h]
  | y :: m, last => by
    have e : (y :: m).getLast?.getD last = m.getLast?.getD y := by
      rw [List.getLast?_cons]; simp
    rw [e, List.cons_append, cptG, cptG, cptG_snoc x m last, cptG_snoc x m y]
    by_cases hy : y = last
    · subst hy
      simp
    · rw [if_neg hy, if_neg hy]
      by_cases h : m.getLast?.getD y = x
      · rw [if_pos h, if_pos h]
      · rw [if_neg h, if_neg h, List.cons_append]
theorem cpt_snoc {α : Type} (x : α) (m : List α) (hm : m ≠ []) : cpt (m ++ [x]) = @ite _ (m.getLast? = some x) (Classical.propDecidable _) (cpt m) (cpt m ++ [x]) := by
  cases m with
  | nil => exact absurd rfl hm
  | cons y m =>
    rw [List.cons_append, cpt, cpt, cptG_snoc]
    have e : ((y :: m).getLast? = some x) ↔ m.getLast?.getD y = x := by rw [List.getLast?_cons]; simp
    by_cases h : m.getLast?.getD y = x
    · rw [if_pos h, if_pos (e.mpr h)]
    · rw [if_neg h, if_neg (fun h2 => h (e.mp h2)), List.cons_append]
theorem cpt_take {α : Type} {l : List α} {k : Nat} (h1 : 1 ≤ k) (hk : k < l.length) : cpt (l.take (k + 1)) = @ite _ (l[k] = l[k - 1]'(by omega)) (Classical.propDecidable _) (cpt (l.take k)) (cpt (l.take k) ++ [l[k]]) := by
  have hne : l.take k ≠ [] := fun h => by have := congrArg List.length h; rw [List.length_take, List.length_nil] at this; omega
  rw [List.take_succ_eq_append_getElem hk, cpt_snoc _ _ hne]
  have e : ((l.take k).getLast? = some l[k]) ↔ l[k] = l[k - 1]'(by omega) := by
    rw [List.getLast?_take, if_neg (by omega), List.getElem?_eq_getElem (by omega)]
    simp [eq_comm]
  by_cases h : l[k] = l[k - 1]'(by omega)
  · rw [if_pos h, if_pos (e.mpr h)]
  · rw [if_neg h, if_neg (fun h2 => h (e.mp h2))]
theorem cptG_len {α : Type} : ∀ (l : List α) (last : α), (cptG last l).length ≤ l.length
  | [], _ => by simp [cptG]
  | x :: l, last => by
    unfold cptG
    split
    · have := cptG_len l last; simp only [List.length_cons]; omega
    · have := cptG_len l x; simp only [List.length_cons]; omega
theorem cpt_len {α : Type} : ∀ (l : List α), (cpt l).length ≤ l.length
  | [] => by simp [cpt]
  | x :: l => by have := cptG_len l x; simp only [cpt, List.length_cons]; omega
theorem cptG_mem {α : Type} {y : α} : ∀ {l : List α} {last : α}, y = last ∨ y ∈ cptG last l ↔ y = last ∨ y ∈ l
  | [], last => by simp [cptG]
  | x :: l, last => by
    unfold cptG
    by_cases h : x = last
    · subst h
      rw [if_pos rfl, cptG_mem (l := l)]; simp
    · rw [if_neg h, List.mem_cons, cptG_mem (l := l), List.mem_cons]
theorem cpt_mem {α : Type} {y : α} : ∀ {l : List α}, y ∈ cpt l ↔ y ∈ l
  | [] => by simp [cpt]
  | x :: l => by rw [cpt, List.mem_cons, cptG_mem, List.mem_cons]
/-- In a list that rises, or stays, nothing is there twice. -/
theorem cptG_sorted {α : Type} {r : α → α → Prop} (tr : ∀ a b c, r a b → r b c → r a c) : ∀ {l : List α} {last : α}, (last :: l).Pairwise (fun a b => a = b ∨ r a b) → (last :: cptG last l).Pairwise r
  | [], _, _ => by simp [cptG]
  | x :: l, last, h => by
    rw [List.pairwise_cons] at h
    unfold cptG
    by_cases e : x = last
    · subst e
      rw [if_pos rfl]
      exact cptG_sorted tr h.2
    · rw [if_neg e]
      have hx : r last x := (h.1 x (by simp)).resolve_left (Ne.symm e)
      have ih := cptG_sorted tr h.2
      refine List.pairwise_cons.mpr ⟨fun k hk => ?_, ih⟩
      rcases List.mem_cons.mp hk with rfl | hk
      · exact hx
      · exact tr _ _ _ hx ((List.pairwise_cons.mp ih).1 k hk)
theorem cpt_sorted {α : Type} {r : α → α → Prop} (tr : ∀ a b c, r a b → r b c → r a c) : ∀ {l : List α}, l.Pairwise (fun a b => a = b ∨ r a b) → (cpt l).Pairwise r
  | [], _ => by simp [cpt]
  | x :: l, h => cptG_sorted tr h
/-- slices.Compact as it is printed, for an equality eq; z is the element that fills the end. -/
noncomputable def cmpG {α : Type} (z : α) (eq : α → α → Bool) (a_0 : List α) : Option (List α) :=
  if (a_0.length : Int) < 2 then
    some a_0
  else
    iterK (fun (v2 : Int) (nx3 : Int → Option _) =>
      if v2 < (a_0.length : Int) then
        getK a_0 v2 fun x5 =>
        getK a_0 (IntKind.i64.wrap (v2 - 1)) fun x6 =>
        if (eq x5 x6) = true then
          grd (0 ≤ v2 ∧ v2 < (a_0.length : Int)) <|
          iterK (fun ((v8, v9, v10) : (Int × Int × (List α))) (nx11 : (Int × Int × (List α)) → Option _) =>
            if v9 < ((List.drop (Int.toNat v2) v10).length : Int) then
              grd (0 ≤ v9) <|
              getN v10 ((Int.toNat v2) + Int.toNat v9) fun x13 =>
              grd (0 ≤ (IntKind.i64.wrap (v9 - 1))) <|
              getN v10 ((Int.toNat v2) + Int.toNat (IntKind.i64.wrap (v9 - 1))) fun x14 =>
              if (eq x13 x14) = true then
                nx11 (v8, (IntKind.i64.wrap (v9 + 1)), v10)
              else
                grd (0 ≤ v9) <|
                getK v10 v8 fun x16 =>
                nx11 ((IntKind.i64.wrap (v8 + 1)), (IntKind.i64.wrap (v9 + 1)), (v10.set (Int.toNat v8) x13))
            else
              grd (0 ≤ v8 ∧ v8 < (v10.length : Int)) <|
              grd (0 ≤ v8 ∧ v8 ≤ ((v10.take (Int.toNat v8) ++ List.replicate (v10.length - (Int.toNat v8)) z).length : Int)) <|
              some ((v10.take (Int.toNat v8) ++ List.replicate (v10.length - (Int.toNat v8)) z).take (Int.toNat v8))) NN (v2, 1, a_0)
        else
          nx3 (IntKind.i64.wrap (v2 + 1))
      else
        some a_0) NN 1
theorem cmpG_ok {α : Type} (z : α) {eq : α → α → Bool} (heq : ∀ x y, eq x y = true ↔ x = y) (l : List α) (hl : l.length ≤ 1000000) : cmpG z eq l = some (cpt l) := by
  unfold cmpG
  by_cases h2 : (l.length : Int) < 2
  · rw [if_pos h2]
    match l, h2 with
    | [], _ => rfl
    | [x], _ => rfl
    | x :: y :: m, h => simp only [List.length_cons] at h; omega
  rw [if_neg h2]
  refine iterK_rule (fun d (s : Int) => ∃ k : Nat, s = (k : Int) ∧ 1 ≤ k ∧ k ≤ l.length ∧ d = l.length - k ∧ cpt (l.take k) = l.take k) ?_ (l.length - 1) 1 (by unfold NN; omega) ⟨1, rfl, by omega, by omega, rfl, by
    cases l with
    | nil => simp at h2
    | cons x m => simp [cpt, cptG]⟩
  rintro d v2 ⟨k, rfl, h1, hk, rfl, hc⟩ nx hnx
  by_cases hlt : k < l.length
  · rw [if_pos (by omega), getK_lt hlt, wrap_sm _ (by omega) (by omega), show (k : Int) - 1 = ((k - 1 : Nat) : Int) by omega, getK_lt (by omega)]
    have hnext := cpt_take h1 hlt
    by_cases he : l[k] = l[k - 1]'(by omega)
    · rw [if_pos ((heq _ _).mpr he), grd_pos (by omega)]
      rw [if_pos he] at hnext
      refine iterK_rule (fun d (s : Int × Int × List α) => ∃ w r : Nat, s.1 = w ∧ s.2.1 = r ∧ 1 ≤ r ∧ k + r ≤ l.length ∧ d = l.length - (k + r) ∧ w ≤ k + r - 1 ∧ s.2.2.length = l.length ∧ s.2.2.take w = cpt (l.take (k + r)) ∧ s.2.2.drop (k + r - 1) = l.drop (k + r - 1)) ?_ (l.length - (k + 1)) _ (by unfold NN; omega)
        ⟨k, 1, rfl, rfl, by omega, by omega, rfl, by omega, rfl, by dsimp only; rw [hnext, hc], rfl⟩
      rintro d ⟨v8, v9, v10⟩ ⟨w, r, e1, e2, e3, e4, e5, e6, e7, e8, e9⟩ nx hnx
      dsimp only at e1 e2 e7 e8 e9 hnx ⊢
      subst e1 e2
      rw [List.length_drop, Int.toNat_natCast, e7]
      have hwl : (cpt (l.take (k + r))).length = w := by rw [← e8, List.length_take]; omega
      by_cases hr : k + r < l.length
      · have hx : v10[k + r]'(by omega) = l[k + r] := by
          have a := congrArg (fun t => t[1]?) e9
          simp only [List.getElem?_drop] at a
          rw [show k + r - 1 + 1 = k + r by omega, List.getElem?_eq_getElem (by omega), List.getElem?_eq_getElem hr] at a
          exact Option.some.inj a
        have hp : v10[k + r - 1]'(by omega) = l[k + r - 1] := by
          have a := congrArg (fun t => t[0]?) e9
          simp only [List.getElem?_drop, Nat.add_zero] at a
          rw [List.getElem?_eq_getElem (by omega), List.getElem?_eq_getElem (by omega)] at a
          exact Option.some.inj a
        have hn := cpt_take (l := l) (k := k + r) (by omega) hr
        have hd : ∀ u : List α, u.length = l.length → u.drop (k + r - 1) = l.drop (k + r - 1) → u.drop (k + r) = l.drop (k + r) := fun u _ h => by
          have := congrArg (List.drop 1) h
          simpa [List.drop_drop, show k + r - 1 + 1 = k + r by omega] using this
        rw [if_pos (by omega), grd_pos (by omega), Int.toNat_natCast, getN_lt (by omega), wrap_sm _ (by omega) (by omega), grd_pos (by omega), show ((r : Int) - 1).toNat = r - 1 by omega, getN_lt (by omega), hx]
        simp only [show k + (r - 1) = k + r - 1 by omega, hp]
        by_cases hq : l[k + r] = l[k + r - 1]'(by omega)
        · rw [if_pos hq] at hn
          rw [if_pos ((heq _ _).mpr hq), wrap_sm _ (by omega) (by omega)]
          exact hnx (l.length - (k + (r + 1))) _ (by omega) ⟨w, r + 1, rfl, by dsimp only; omega, by omega, by omega, rfl, by omega, e7, by dsimp only; rw [← Nat.add_assoc, hn, e8], by dsimp only; exact hd _ e7 e9⟩
        · rw [if_neg hq] at hn
          rw [if_neg (fun h => hq ((heq _ _).mp h)), grd_pos (by omega), getK_lt (by omega), wrap_sm _ (by omega) (by omega), wrap_sm _ (by omega) (by omega), Int.toNat_natCast]
          refine hnx (l.length - (k + (r + 1))) _ (by omega) ⟨w + 1, r + 1, by dsimp only; omega, by dsimp only; omega, by omega, by omega, rfl, by omega, by simpa using e7, ?_, ?_⟩
          · dsimp only
            rw [← Nat.add_assoc, hn, ← e8, List.take_succ_eq_append_getElem (by simp; omega), List.take_set_of_le (by omega)]
            simp
          · dsimp only
            rw [show k + (r + 1) - 1 = k + r by omega, List.drop_set_of_lt (by omega)]
            exact hd _ e7 e9
      · rw [if_neg (by omega), Int.toNat_natCast, grd_pos (by omega), grd_pos (by simp; omega), List.take_append_of_le_length (by simp; omega), List.take_take, Nat.min_self, e8, List.take_of_length_le (by omega)]
    · rw [if_neg (fun h => he ((heq _ _).mp h)), wrap_sm _ (by omega) (by omega)]
      rw [if_neg he] at hnext
      exact hnx (l.length - (k + 1)) _ (by omega) ⟨k + 1, by omega, by omega, by omega, rfl, by rw [hnext, hc, List.take_succ_eq_append_getElem hlt]⟩
  · have : k = l.length := by omega
    subst this
    rw [if_neg (by omega)]
    rw [List.take_length] at hc
    rw [hc]

/-! ### Strings in order -/
theorem bl_irr : ∀ x : List UInt8, Op.bytesLess x x = false
  | [] => rfl
  | a :: x => by simp [Op.bytesLess, bl_irr x, UInt8.lt_irrefl]
theorem bl_tr : ∀ {x y z : List UInt8}, Op.bytesLess x y = true → Op.bytesLess y z = true → Op.bytesLess x z = true
  | _, [], _, h, _ => by
    rename_i x _
    cases x <;> simp [Op.bytesLess] at h
  | _, b :: y, [], _, h => by simp [Op.bytesLess] at h
  | [], b :: y, c :: z, _, _ => rfl
  | a :: x, b :: y, c :: z, h1, h2 => by
    simp only [Op.bytesLess, Bool.or_eq_true, Bool.and_eq_true, decide_eq_true_eq, beq_iff_eq] at h1 h2 ⊢
    rcases h1 with h1 | ⟨rfl, h1⟩
    · rcases h2 with h2 | ⟨rfl, h2⟩
      · exact .inl (UInt8.lt_trans h1 h2)
      · exact .inl h1
    · rcases h2 with h2 | ⟨rfl, h2⟩
      · exact .inl h2
      · exact .inr ⟨rfl, bl_tr h1 h2⟩
theorem bl_tri : ∀ {x y : List UInt8}, Op.bytesLess x y = false → Op.bytesLess y x = false → x = y
  | [], [], _, _ => rfl
  | [], _ :: _, h, _ => by simp [Op.bytesLess] at h
  | _ :: _, [], _, h => by simp [Op.bytesLess] at h
  | a :: x, b :: y, h1, h2 => by
    simp only [Op.bytesLess, Bool.or_eq_false_iff, decide_eq_false_iff_not, Bool.and_eq_false_iff, beq_eq_false_iff_ne, ne_eq] at h1 h2
    have he : a = b := by
      rcases UInt8.lt_or_eq_of_le (UInt8.not_lt.mp h2.1) with h | h
      · exact absurd h h1.1
      · exact h
    subst he
    rcases h1.2 with h | h
    · exact absurd rfl h
    · rcases h2.2 with h' | h'
      · exact absurd rfl h'
      · rw [bl_tri h h']
def kl (a b : ByteArray) : Prop := Op.bytesLess a.toList b.toList = true
theorem kl_irr (a : ByteArray) : ¬ kl a a := by unfold kl; rw [bl_irr]; simp
theorem kl_tr (a b c : ByteArray) (h1 : kl a b) (h2 : kl b c) : kl a c := bl_tr h1 h2
theorem kl_tri (a b : ByteArray) (h1 : ¬ kl a b) (h2 : ¬ kl b a) : a = b := by
  unfold kl at h1 h2
  have := bl_tri (by simpa using h1) (by simpa using h2)
  rw [toList_data, toList_data] at this
  exact bytes_ext this
theorem kl_b (a b : ByteArray) : (Op.bytesLess a.toList b.toList = true) = kl a b := rfl
theorem kl_as {a b : ByteArray} (h : kl a b) : ¬ kl b a := fun h2 => kl_irr _ (kl_tr _ _ _ h h2)
theorem kl_ne {a b : ByteArray} (h : kl a b) : a ≠ b := fun e => kl_irr a (by rw [← e] at h; exact h)
theorem kl_empty (a : ByteArray) : ¬ kl a ⟨#[]⟩ := by
  unfold kl
  rw [show (⟨#[]⟩ : ByteArray).toList = [] from by rw [toList_data]]
  cases a.toList <;> simp [Op.bytesLess]
theorem kl_pos {a : ByteArray} (h : a ≠ ⟨#[]⟩) : kl ⟨#[]⟩ a := Classical.byContradiction fun hn => h (kl_tri _ _ (kl_empty a) hn)
/-! ### Orders one behind the other -/
def Lx {α κ : Type} (f : α → κ) (r : κ → κ → Prop) (S : α → α → Prop) (a b : α) : Prop := r (f a) (f b) ∨ (f a = f b ∧ S a b)
theorem Lx.tr {α κ : Type} {f : α → κ} {r : κ → κ → Prop} {S : α → α → Prop} (hr : ∀ x y z, r x y → r y z → r x z) (hS : ∀ a b c, S a b → S b c → S a c) (a b c : α) (h1 : Lx f r S a b) (h2 : Lx f r S b c) : Lx f r S a c := by
  rcases h1 with h1 | ⟨e1, h1⟩ <;> rcases h2 with h2 | ⟨e2, h2⟩
  · exact .inl (hr _ _ _ h1 h2)
  · exact .inl (e2 ▸ h1)
  · exact .inl (e1 ▸ h2)
  · exact .inr ⟨e1.trans e2, hS _ _ _ h1 h2⟩
theorem Lx.irr {α κ : Type} {f : α → κ} {r : κ → κ → Prop} {S : α → α → Prop} (hr : ∀ x, ¬ r x x) (hS : ∀ a, ¬ S a a) (a : α) : ¬ Lx f r S a a := by
  rintro (h | ⟨_, h⟩)
  · exact hr _ h
  · exact hS _ h
theorem Lx.tri {α κ : Type} {f : α → κ} {r : κ → κ → Prop} {S : α → α → Prop} (hr : ∀ x y, ¬ r x y → ¬ r y x → x = y) {a b : α} (h1 : ¬ Lx f r S a b) (h2 : ¬ Lx f r S b a) : f a = f b ∧ ¬ S a b ∧ ¬ S b a := by
  have e := hr (f a) (f b) (fun h => h1 (.inl h)) (fun h => h2 (.inl h))
  exact ⟨e, fun h => h1 (.inr ⟨e, h⟩), fun h => h2 (.inr ⟨e.symm, h⟩)⟩
/-- The internal order. -/
def RL : Record → Record → Prop := Lx (·.Key) kl (Lx (·.Seq) (· > ·) (Lx (·.Kind) (· < ·) (Lx (·.Value) kl fun a b => kl a.End b.End)))
theorem RL_tr (a b c : Record) : RL a b → RL b c → RL a c := by
  unfold RL
  refine Lx.tr kl_tr (Lx.tr (fun x y z h1 h2 => ?_) (Lx.tr (fun x y z h1 h2 => ?_) (Lx.tr kl_tr fun a b c h1 h2 => ?_))) a b c
  · exact Int.lt_trans h2 h1
  · exact Int.lt_trans h1 h2
  · exact kl_tr _ _ _ h1 h2
theorem RL_irr (a : Record) : ¬ RL a a := by
  unfold RL
  refine Lx.irr kl_irr (Lx.irr (fun x h => ?_) (Lx.irr (fun x h => ?_) (Lx.irr kl_irr fun a h => ?_))) a
  · exact Int.lt_irrefl _ h
  · exact Int.lt_irrefl _ h
  · exact kl_irr _ h
theorem RL_tri {a b : Record} (h1 : ¬ RL a b) (h2 : ¬ RL b a) : a = b := by
  obtain ⟨e1, h1, h2⟩ := Lx.tri kl_tri h1 h2
  obtain ⟨e2, h1, h2⟩ := Lx.tri (fun x y (h1 : ¬ x > y) (h2 : ¬ y > x) => by omega) h1 h2
  obtain ⟨e3, h1, h2⟩ := Lx.tri (fun x y (h1 : ¬ x < y) (h2 : ¬ y < x) => by omega) h1 h2
  obtain ⟨e4, h1, h2⟩ := Lx.tri kl_tri h1 h2
  have e5 := kl_tri _ _ h1 h2
  cases a; cases b
  simp_all
theorem RL_key {a b : Record} (h : RL a b) : kl a.Key b.Key ∨ a.Key = b.Key := h.imp id (·.1)
noncomputable def rl (a b : Record) : Bool := @decide (RL a b) (Classical.propDecidable _)
theorem rl_iff {a b : Record} : rl a b = true ↔ RL a b := by unfold rl; exact @decide_eq_true_iff _ (Classical.propDecidable _)
theorem rl_of {b : Bool} {x y : Record} (h : b = true ↔ RL x y) : b = rl x y := by rw [Bool.eq_iff_iff, h, rl_iff]
/-- Two rows in strict order with the same elements are one. -/
theorem sorted_ext {α : Type} {r : α → α → Prop} (tr : ∀ a b c, r a b → r b c → r a c) (irr : ∀ a, ¬ r a a) : ∀ {l m : List α}, l.Pairwise r → m.Pairwise r → (∀ x, x ∈ l ↔ x ∈ m) → l = m
  | [], [], _, _, _ => rfl
  | [], y :: m, _, _, h => by have := (h y).mpr (by simp); simp at this
  | x :: l, [], _, _, h => by have := (h x).mp (by simp); simp at this
  | x :: l, y :: m, h1, h2, h => by
    rw [List.pairwise_cons] at h1 h2
    have e : x = y := by
      rcases List.mem_cons.mp ((h x).mp (by simp)) with e | hx
      · exact e
      · rcases List.mem_cons.mp ((h y).mpr (by simp)) with e | hy
        · exact e.symm
        · exact absurd (tr _ _ _ (h1.1 y hy) (h2.1 x hx)) (irr x)
    subst e
    congr 1
    refine sorted_ext tr irr h1.2 h2.2 fun z => ?_
    constructor
    · intro hz
      rcases List.mem_cons.mp ((h z).mp (by simp [hz])) with e | h'
      · subst e; exact absurd (h1.1 z hz) (irr z)
      · exact h'
    · intro hz
      rcases List.mem_cons.mp ((h z).mpr (by simp [hz])) with e | h'
      · subst e; exact absurd (h2.1 z hz) (irr z)
      · exact h'
/-! ### A record put to its place -/
noncomputable def into : List Record → Record → List Record
  | [], r => [r]
  | x :: l, r => if rl x r = true then x :: into l r else @ite _ (x = r) (Classical.propDecidable _) (x :: l) (r :: x :: l)
theorem into_mem {x r : Record} : ∀ {l : List Record}, x ∈ into l r ↔ x ∈ l ∨ x = r
  | [] => by simp [into]
  | y :: l => by
    unfold into
    split
    · rw [List.mem_cons, into_mem (l := l), List.mem_cons, or_assoc]
    · split
      · rename_i e
        subst e
        simp
        intro h; subst h; exact .inl rfl
      · simp only [List.mem_cons]
        constructor
        · rintro (h | h | h)
          · exact .inr h
          · exact .inl (.inl h)
          · exact .inl (.inr h)
        · rintro ((h | h) | h)
          · exact .inr (.inl h)
          · exact .inr (.inr h)
          · exact .inl h
theorem into_sorted {r : Record} : ∀ {l : List Record}, l.Pairwise RL → (into l r).Pairwise RL
  | [], _ => by simp [into]
  | y :: l, h => by
    unfold into
    rw [List.pairwise_cons] at h
    split
    · rename_i c
      refine List.pairwise_cons.mpr ⟨fun x hx => ?_, into_sorted h.2⟩
      rcases into_mem.mp hx with hx | rfl
      · exact h.1 x hx
      · exact rl_iff.mp c
    · rename_i c
      split
      · exact List.pairwise_cons.mpr h
      · rename_i e
        have hry : RL r y := Classical.byContradiction fun hn => e (RL_tri (fun h => c (rl_iff.mpr h)) hn)
        refine List.pairwise_cons.mpr ⟨fun x hx => ?_, List.pairwise_cons.mpr h⟩
        rcases List.mem_cons.mp hx with rfl | hx
        · exact hry
        · exact RL_tr _ _ _ hry (h.1 x hx)
theorem into_len {r : Record} : ∀ {l : List Record}, r ∉ l → (into l r).length = l.length + 1
  | [], _ => rfl
  | y :: l, h => by
    unfold into
    split
    · simp only [List.length_cons, into_len (l := l) (r := r) (fun hm => h (List.mem_cons_of_mem _ hm))]
    · split
      · rename_i e; exact absurd (by simp [e]) h
      · rfl
theorem into_len_le (r : Record) : ∀ (l : List Record), (into l r).length ≤ l.length + 1
  | [] => by simp [into]
  | y :: l => by
    unfold into
    split
    · have := into_len_le r l; simp only [List.length_cons]; omega
    · split <;> simp
theorem into_at {r : Record} : ∀ {l : List Record} {i : Nat} (hi : i < l.length), (∀ j (hj : j < i), rl (l[j]'(by omega)) r = true) → rl l[i] r = false → into l r = @ite _ (l[i] = r) (Classical.propDecidable _) l (l.take i ++ r :: l.drop i)
  | x :: l, 0, hi, _, h => by
    unfold into
    simp only [List.getElem_cons_zero] at h ⊢
    rw [if_neg (by rw [h]; decide)]
    by_cases e : x = r
    · rw [if_pos e, if_pos e]
    · rw [if_neg e, if_neg e]; rfl
  | x :: l, i + 1, hi, h1, h => by
    have h0 := h1 0 (by omega)
    simp only [List.getElem_cons_zero] at h0
    unfold into
    rw [if_pos h0, into_at (l := l) (i := i) (by simpa using hi) (fun j hj => by have := h1 (j + 1) (by omega); simpa using this) (by simpa using h)]
    simp only [List.getElem_cons_succ]
    split <;> rfl
theorem into_end {r : Record} : ∀ {l : List Record}, (∀ x ∈ l, rl x r = true) → into l r = l ++ [r]
  | [], _ => rfl
  | x :: l, h => by
    unfold into
    rw [if_pos (h x (by simp)), into_end fun y hy => h y (by simp [hy])]; rfl
theorem fold_into : ∀ (l acc : List Record), acc.Pairwise RL → (∀ x ∈ acc, ∀ y ∈ l, x ≠ y) → l.Pairwise (· ≠ ·) → (l.foldl into acc).Pairwise RL ∧ (∀ x, x ∈ l.foldl into acc ↔ x ∈ acc ∨ x ∈ l) ∧ (l.foldl into acc).length = acc.length + l.length
  | [], acc, h, _, _ => ⟨h, by simp, by simp⟩
  | y :: l, acc, h, h1, h2 => by
    rw [List.pairwise_cons] at h2
    rw [List.foldl_cons]
    obtain ⟨g1, g2, g3⟩ := fold_into l (into acc y) (into_sorted h) (fun x hx z hz => by
      rcases into_mem.mp hx with hx | rfl
      · exact h1 x hx z (by simp [hz])
      · exact h2.1 z hz) h2.2
    refine ⟨g1, fun x => ?_, ?_⟩
    · rw [g2, into_mem, List.mem_cons, or_assoc]
    · rw [g3, into_len (fun hm => h1 y hm y (by simp) rfl), List.length_cons]; omega
theorem fold_into_mem : ∀ (l acc : List Record) (x : Record), x ∈ l.foldl into acc ↔ x ∈ acc ∨ x ∈ l
  | [], acc, x => by simp
  | y :: l, acc, x => by rw [List.foldl_cons, fold_into_mem, into_mem, List.mem_cons, or_assoc]
theorem fold_into_sorted : ∀ (l acc : List Record), acc.Pairwise RL → (l.foldl into acc).Pairwise RL
  | [], acc, h => h
  | y :: l, acc, h => by rw [List.foldl_cons]; exact fold_into_sorted l _ (into_sorted h)
/-! ### Valid records, runs -/
def okKey (k : ByteArray) : Bool := inR (k.size : Int) 1 8
def isE (s : ByteArray) : Bool := s.toList == (⟨#[]⟩ : ByteArray).toList
theorem isE_iff {s : ByteArray} : isE s = true ↔ s = ⟨#[]⟩ := by unfold isE; rw [str_eq]; exact decide_eq_true_iff
def okRec (r : Record) : Bool := okKey r.Key && (inR r.Seq 1 1000000 && (if r.Kind = 1 then decide ((r.Value.size : Int) ≤ 16) && isE r.End else if r.Kind = 2 then isE r.Value && isE r.End else if r.Kind = 3 then isE r.Value && (okKey r.End && Op.bytesLess r.Key.toList r.End.toList) else false))
theorem okKey_ne {k : ByteArray} (h : okKey k = true) : k ≠ ⟨#[]⟩ := by
  rintro rfl
  have := inR_iff.mp h
  simp [ByteArray.size] at this
theorem okRec_seq {r : Record} (h : okRec r = true) : 1 ≤ r.Seq ∧ r.Seq ≤ 1000000 := by
  unfold okRec at h
  simp only [Bool.and_eq_true] at h
  exact inR_iff.mp h.2.1
theorem okRec_key {r : Record} (h : okRec r = true) : okKey r.Key = true := by
  unfold okRec at h
  simp only [Bool.and_eq_true] at h
  exact h.1
structure Run (l : List Record) : Prop where
  ok : ∀ r ∈ l, okRec r = true
  srt : l.Pairwise RL
  inj : ∀ a ∈ l, ∀ b ∈ l, a.Seq = b.Seq → a = b
theorem Run.sub {l m : List Record} (h : Run l) (hs : m.Sublist l) : Run m := ⟨fun r hr => h.ok r (hs.subset hr), h.srt.sublist hs, fun a ha b hb => h.inj a (hs.subset ha) b (hs.subset hb)⟩
theorem Run.filter {l : List Record} (h : Run l) (p : Record → Bool) : Run (l.filter p) := h.sub List.filter_sublist
theorem Run.nil : Run [] := ⟨fun r hr => by simp at hr, .nil, fun a ha => by simp at ha⟩
theorem Run.ne {l : List Record} (h : Run l) : l.Pairwise (· ≠ ·) := h.srt.imp fun hr e => by subst e; exact RL_irr _ hr
theorem Run.into {l : List Record} (h : Run l) {r : Record} (hr : okRec r = true) (hn : ∀ x ∈ l, x.Seq ≠ r.Seq) : Run (into l r) := by
  refine ⟨fun x hx => ?_, into_sorted h.srt, fun a ha b hb e => ?_⟩
  · rcases into_mem.mp hx with hx | rfl
    · exact h.ok x hx
    · exact hr
  · rcases into_mem.mp ha with a1 | a1 <;> rcases into_mem.mp hb with b1 | b1
    · exact h.inj a a1 b b1 e
    · exact absurd (by rw [e, b1]) (hn a a1)
    · exact absurd (by rw [← e, a1]) (hn b b1)
    · rw [a1, b1]
/-! ### What a record does to a key -/
def aff (r : Record) (k : ByteArray) : Bool := if r.Kind = 3 then (Op.bytesLess r.Key.toList k.toList || r.Key.toList == k.toList) && Op.bytesLess k.toList r.End.toList else r.Key.toList == k.toList
theorem aff_key {r : Record} (h : r.Kind ≠ 3) {k : ByteArray} (ha : aff r k = true) : r.Key = k := by
  unfold aff at ha
  rw [if_neg h, str_eq] at ha
  exact of_decide_eq_true ha
def zR : Record := ⟨⟨#[]⟩, 0, 0, ⟨#[]⟩, ⟨#[]⟩⟩
/-- The newest record that affects a key, up to a sequence number. -/
structure New (l : List Record) (k : ByteArray) (s : Int) (n : Record) : Prop where
  has : n = zR ∨ (n ∈ l ∧ aff n k = true ∧ n.Seq ≤ s)
  top : ∀ x ∈ l, aff x k = true → x.Seq ≤ s → x.Seq ≤ n.Seq
theorem New.uniq {l : List Record} (h : Run l) {k : ByteArray} {s : Int} {n m : Record} (h1 : New l k s n) (h2 : New l k s m) : n = m := by
  rcases h1.has with e1 | ⟨a1, a2, a3⟩ <;> rcases h2.has with e2 | ⟨b1, b2, b3⟩
  · rw [e1, e2]
  · have := h1.top m b1 b2 b3
    have := okRec_seq (h.ok m b1)
    rw [e1] at *
    unfold zR at *
    dsimp only at *
    omega
  · have := h2.top n a1 a2 a3
    have := okRec_seq (h.ok n a1)
    rw [e2] at *
    unfold zR at *
    dsimp only at *
    omega
  · have h3 := h1.top m b1 b2 b3
    have h4 := h2.top n a1 a2 a3
    exact h.inj n a1 m b1 (by omega)
def getV (n : Record) : Option ByteArray := if n.Seq > 0 ∧ n.Kind = 1 then some n.Value else none
/-! ### The keys of a run -/
def keysG : ByteArray → List Record → List ByteArray
  | _, [] => []
  | last, x :: l => if (x.Key.toList == last.toList) = true then keysG last l else x.Key :: keysG x.Key l
theorem keysG_mem {k : ByteArray} : ∀ {l : List Record} {last : ByteArray}, k ∈ keysG last l → ∃ x ∈ l, x.Key = k
  | [], _, h => by simp [keysG] at h
  | x :: l, last, h => by
    unfold keysG at h
    split at h
    · obtain ⟨y, h1, h2⟩ := keysG_mem h
      exact ⟨y, by simp [h1], h2⟩
    · rcases List.mem_cons.mp h with rfl | h
      · exact ⟨x, by simp, rfl⟩
      · obtain ⟨y, h1, h2⟩ := keysG_mem h
        exact ⟨y, by simp [h1], h2⟩
theorem keysG_of {k : ByteArray} : ∀ {l : List Record} {last : ByteArray}, k ≠ last → (∃ x ∈ l, x.Key = k) → k ∈ keysG last l
  | [], _, _, ⟨x, h, _⟩ => by simp at h
  | y :: l, last, hne, ⟨x, hx, hk⟩ => by
    unfold keysG
    split
    · rename_i e
      rw [str_eq, decide_eq_true_eq] at e
      rcases List.mem_cons.mp hx with rfl | hx
      · exact absurd (hk.symm.trans e) hne
      · exact keysG_of hne ⟨x, hx, hk⟩
    · by_cases e : k = y.Key
      · rw [e]; simp
      · rcases List.mem_cons.mp hx with rfl | hx
        · exact absurd hk.symm e
        · exact List.mem_cons_of_mem _ (keysG_of e ⟨x, hx, hk⟩)
theorem keysG_sorted : ∀ {l : List Record} {last : ByteArray}, l.Pairwise RL → (∀ x ∈ l, kl last x.Key ∨ last = x.Key) → (last :: keysG last l).Pairwise kl
  | [], _, _, _ => by simp [keysG]
  | x :: l, last, h, hl => by
    rw [List.pairwise_cons] at h
    unfold keysG
    split
    · exact keysG_sorted h.2 fun y hy => hl y (by simp [hy])
    · rename_i e
      rw [str_eq, decide_eq_true_eq] at e
      have hx : kl last x.Key := (hl x (by simp)).resolve_right fun h => e h.symm
      have ih := keysG_sorted (l := l) (last := x.Key) h.2 fun y hy => RL_key (h.1 y hy)
      refine List.pairwise_cons.mpr ⟨fun k hk => ?_, ih⟩
      rcases List.mem_cons.mp hk with rfl | hk
      · exact hx
      · exact kl_tr _ _ _ hx ((List.pairwise_cons.mp ih).1 k hk)
def keysOf (l : List Record) : List ByteArray := keysG ⟨#[]⟩ l
theorem keysOf_sorted {l : List Record} (h : Run l) : (keysOf l).Pairwise kl := (List.pairwise_cons.mp (keysG_sorted h.srt fun x hx => .inl (kl_pos (okKey_ne (okRec_key (h.ok x hx)))))).2
theorem keysOf_mem {l : List Record} (h : Run l) {k : ByteArray} : k ∈ keysOf l ↔ ∃ x ∈ l, x.Key = k := ⟨keysG_mem, fun ⟨x, hx, hk⟩ => keysG_of (by rw [← hk]; exact okKey_ne (okRec_key (h.ok x hx))) ⟨x, hx, hk⟩⟩
/-- What is visible of a run: each key with its value. -/
def visOf (g : ByteArray → Option ByteArray) (ks : List ByteArray) : List Pair := ks.filterMap fun k => (g k).map fun v => ⟨k, v⟩
theorem vis_eq {A B : List Record} (hA : Run A) (hB : Run B) {g : ByteArray → Option ByteArray} (h : ∀ k, g k ≠ none → (∃ x ∈ A, x.Key = k) ∧ ∃ x ∈ B, x.Key = k) : visOf g (keysOf A) = visOf g (keysOf B) := by
  have e : ∀ ks : List ByteArray, visOf g ks = visOf g (ks.filter fun k => (g k).isSome) := by
    intro ks
    unfold visOf
    induction ks with
    | nil => rfl
    | cons k ks ih =>
      rw [List.filterMap_cons, List.filter_cons]
      cases hg : g k with
      | none => simp only [Option.map_none, Option.isSome_none, Bool.false_eq_true, if_false]; exact ih
      | some v => simp only [Option.map_some, Option.isSome_some, if_true, List.filterMap_cons, hg]; rw [ih]
  rw [e, e (keysOf B)]
  congr 1
  refine sorted_ext kl_tr kl_irr ((keysOf_sorted hA).filter _) ((keysOf_sorted hB).filter _) fun k => ?_
  simp only [List.mem_filter, keysOf_mem hA, keysOf_mem hB, Option.isSome_iff_ne_none]
  exact ⟨fun ⟨_, h2⟩ => ⟨(h k h2).2, h2⟩, fun ⟨_, h2⟩ => ⟨(h k h2).1, h2⟩⟩

theorem less_cmp : ∀ (x y : List UInt8), Op.bytesLess x y = decide (Lib.compareBytes x y < 0)
  | _, [] => by
    rename_i x
    cases x <;> rfl
  | [], _ :: _ => rfl
  | a :: x, b :: y => by
    rw [Op.bytesLess, Lib.compareBytes, less_cmp x y]
    by_cases h1 : a < b
    · simp [h1]
    · by_cases h2 : b < a
      · have hne : a ≠ b := fun e => by subst e; exact h1 h2
        simp [h1, h2, hne]
      · have he : a = b := by
          have e1 : ¬ a.toNat < b.toNat := fun h => h1 (by rwa [UInt8.lt_iff_toNat_lt])
          have e2 : ¬ b.toNat < a.toNat := fun h => h2 (by rwa [UInt8.lt_iff_toNat_lt])
          exact UInt8.toNat_inj.mp (by omega)
        simp [h1, h2, he]
theorem cmp_zero : ∀ (x y : List UInt8), Lib.compareBytes x y = 0 ↔ x = y
  | [], [] => by simp [Lib.compareBytes]
  | [], _ :: _ => by simp [Lib.compareBytes]
  | _ :: _, [] => by simp [Lib.compareBytes]
  | a :: x, b :: y => by
    rw [Lib.compareBytes]
    by_cases h1 : a < b
    · have hne : a ≠ b := fun e => by subst e; rw [UInt8.lt_iff_toNat_lt] at h1; omega
      simp [h1, hne]
    · by_cases h2 : b < a
      · have hne : a ≠ b := fun e => by subst e; exact h1 h2
        simp [h1, h2, hne]
      · have he : a = b := by
          have e1 : ¬ a.toNat < b.toNat := fun h => h1 (by rwa [UInt8.lt_iff_toNat_lt])
          have e2 : ¬ b.toNat < a.toNat := fun h => h2 (by rwa [UInt8.lt_iff_toNat_lt])
          exact UInt8.toNat_inj.mp (by omega)
        simp [h1, h2, he, cmp_zero x y]
theorem cmpB_lt {a b : ByteArray} : cmpB a b < 0 ↔ kl a b := by
  unfold cmpB kl
  rw [toList_data, toList_data, less_cmp, decide_eq_true_iff]
theorem cmpB_eq {a b : ByteArray} : cmpB a b = 0 ↔ a = b := by
  unfold cmpB
  rw [cmp_zero]
  exact ⟨bytes_ext, fun h => by rw [h]⟩

/-! ### What the functions on records come to -/
theorem ifs_pos {R : Type} {a b : ByteArray} (h : a = b) (x y : Option R) : (if (a.toList == b.toList) = true then x else y) = x := by rw [if_pos]; rw [str_eq]; exact decide_eq_true h
theorem ifs_neg {R : Type} {a b : ByteArray} (h : a ≠ b) (x y : Option R) : (if (a.toList == b.toList) = true then x else y) = y := by rw [if_neg]; rw [str_eq]; simpa using h
theorem pl_sLess (a b : Record) : p_spec_l17Less a b = some (rl a b) := by
  unfold p_spec_l17Less
  by_cases k : a.Key = b.Key
  · rw [ifs_pos k]
    by_cases s : a.Seq = b.Seq
    · rw [if_neg (by simpa using s)]
      by_cases d : a.Kind = b.Kind
      · rw [if_neg (by simpa using d)]
        by_cases v : a.Value = b.Value
        · rw [ifs_pos v]
          congr 1
          exact rl_of (by rw [kl_b]; simp [RL, Lx, k, s, d, v, kl_irr])
        · rw [ifs_neg v]
          congr 1
          exact rl_of (by rw [kl_b]; simp [RL, Lx, k, s, d, v, kl_irr])
      · rw [if_pos d]
        congr 1
        exact rl_of (by simp [RL, Lx, k, s, d, kl_irr])
    · rw [if_pos s]
      congr 1
      exact rl_of (by simp [RL, Lx, k, s, kl_irr])
  · rw [ifs_neg k]
    congr 1
    exact rl_of (by rw [kl_b]; simp [RL, Lx, k])
def cmpN (a b : Int) : Int := if a < b then -1 else if a > b then 1 else 0
theorem pl_cmp (a b : Int) : p_cmp_Compare a b = some (cmpN a b) := by
  unfold p_cmp_Compare p_cmp_isNaN cmpN
  simp only [callK_some, bne_self_eq_false, Bool.false_eq_true, if_false]
  repeat' split
  all_goals rfl
theorem pl_or5 (a b c d e : Int) : p_cmp_Or ([a, b, c, d, e] : List Int) = some (if a ≠ 0 then a else if b ≠ 0 then b else if c ≠ 0 then c else if d ≠ 0 then d else e) := by
  unfold p_cmp_Or forK
  rw [grd_pos (by simp)]
  simp only [forGo_cons, forGo_nil]
  repeat' split
  all_goals simp_all
theorem pl_iLess (a b : Record) : p_impl_LessRecord a b = some (rl a b) := by
  unfold p_impl_LessRecord p_impl_compareRecords
  rw [pl_cmp, callK_some, pl_cmp, callK_some, pl_or5, callK_some, callK_some]
  congr 1
  refine rl_of ?_
  rw [decide_eq_true_iff]
  have e1 := cmpB_eq (a := a.Key) (b := b.Key)
  have l1 := cmpB_lt (a := a.Key) (b := b.Key)
  have e4 := cmpB_eq (a := a.Value) (b := b.Value)
  have l4 := cmpB_lt (a := a.Value) (b := b.Value)
  have l5 := cmpB_lt (a := a.End) (b := b.End)
  generalize cmpB a.Key b.Key = x1 at *
  generalize cmpB a.Value b.Value = x4 at *
  generalize cmpB a.End b.End = x5 at *
  simp only [RL, Lx]
  rw [← l1, ← l4, ← l5, ← e1, ← e4]
  unfold cmpN
  by_cases k : x1 = 0
  · subst k
    rw [if_neg (by simp)]
    rcases Int.lt_trichotomy b.Seq a.Seq with s | s | s
    · simp [s]
    · simp only [s, Int.lt_irrefl, gt_iff_lt, if_false, ne_eq, not_true_eq_false, false_or, true_and]
      rcases Int.lt_trichotomy a.Kind b.Kind with d | d | d
      · simp [d]
      · simp only [d, Int.lt_irrefl, if_false, not_true_eq_false, false_or, true_and]
        by_cases v : x4 = 0
        · subst v; simp
        · simp [v]
      · have d2 : ¬ a.Kind < b.Kind := by omega
        have d3 : ¬ a.Kind = b.Kind := by omega
        simp [d, d2, d3]
    · have s2 : ¬ b.Seq < a.Seq := by omega
      have s3 : ¬ a.Seq = b.Seq := by omega
      simp [s, s2, s3]
  · rw [if_pos k]
    simp [k]
theorem pl_iKey (k : ByteArray) : p_impl_ValidKey k = some (okKey k) := rfl
theorem pl_sKey (k : ByteArray) : p_spec_l17Key k = some (okKey k) := by
  unfold p_spec_l17Key okKey
  split
  · rename_i h
    congr 1
    rw [Bool.eq_iff_iff, decide_eq_true_iff, inR_iff]
    omega
  · rename_i h
    rw [inR_not.mpr (by omega)]
theorem pl_sRec (r : Record) : p_spec_l17Valid r = some (okRec r) := by
  unfold p_spec_l17Valid okRec
  rw [pl_sKey, callK_some]
  cases okKey r.Key
  · rfl
  cases inR r.Seq 1 1000000
  · rfl
  simp only [if_true, Bool.true_and]
  by_cases k1 : r.Kind = 1
  · rw [if_pos k1, if_pos k1]
    by_cases hv : (r.Value.size : Int) ≤ 16
    · rw [if_pos hv]; simp [hv, isE]
    · rw [if_neg hv]; simp [hv]
  · rw [if_neg k1, if_neg k1]
    by_cases k2 : r.Kind = 2
    · rw [if_pos k2, if_pos k2]
      unfold isE
      cases r.Value.toList == (⟨#[]⟩ : ByteArray).toList <;> rfl
    · rw [if_neg k2, if_neg k2]
      by_cases k3 : r.Kind = 3
      · rw [if_pos k3, if_pos k3, pl_sKey, callK_some]
        unfold isE
        cases r.Value.toList == (⟨#[]⟩ : ByteArray).toList <;> cases okKey r.End <;> rfl
      · rw [if_neg k3, if_neg k3]
theorem less_not (a b : ByteArray) : (!(Op.bytesLess a.toList b.toList || a.toList == b.toList)) = Op.bytesLess b.toList a.toList := by
  rw [str_eq, Bool.eq_iff_iff]
  simp only [Bool.not_eq_true', Bool.or_eq_false_iff, decide_eq_false_iff_not]
  constructor
  · rintro ⟨h1, h2⟩
    exact Classical.byContradiction fun h => h2 (kl_tri a b (by unfold kl; rw [h1]; simp) h)
  · intro h
    have h : kl b a := h
    refine ⟨?_, (kl_ne h).symm⟩
    have := kl_as h
    unfold kl at this
    simpa using this
theorem pl_iRec (r : Record) : p_impl_ValidRecord r = some (okRec r) := by
  rw [← pl_sRec]
  unfold p_impl_ValidRecord p_spec_l17Valid
  simp only [pl_iKey, pl_sKey, callK_some, less_not]
theorem pl_iAff (r : Record) (k : ByteArray) : p_impl_Record_affects r k = some (aff r k) := by
  unfold p_impl_Record_affects aff
  split
  · cases (Op.bytesLess r.Key.toList k.toList || r.Key.toList == k.toList) <;> rfl
  · rfl
theorem pl_sAff (r : Record) (k : ByteArray) : p_spec_l17Affects r k = some (aff r k) := by
  unfold p_spec_l17Affects aff
  split
  · cases (Op.bytesLess r.Key.toList k.toList || r.Key.toList == k.toList) <;> rfl
  · rfl
theorem mget_put (m z : Int) : ∀ (l : List (Int × Bool)) (n : Int) (x d : Bool), mgetT (mputT l n x) m d = if m = n then x else mgetT l m d
  | [], n, x, d => by
    simp only [mputT, mgetT]
    by_cases h : n = m
    · rw [if_pos h, if_pos h.symm]
    · rw [if_neg h, if_neg (Ne.symm h)]
  | (a, y) :: l, n, x, d => by
    simp only [mputT]
    by_cases h : a = n
    · subst h
      rw [if_pos rfl]
      simp only [mgetT]
      by_cases h2 : a = m
      · rw [if_pos h2, if_pos h2.symm]
      · rw [if_neg h2, if_neg (Ne.symm h2), if_neg h2]
    · rw [if_neg h]
      simp only [mgetT]
      by_cases h2 : a = m
      · rw [if_pos h2, if_pos h2, if_neg (fun e => h (h2.trans e))]
      · rw [if_neg h2, if_neg h2, mget_put m z l n x d]
theorem run_lt {l : List Record} (h : Run l) {i j : Nat} (hij : i < j) (hj : j < l.length) : RL (l[i]'(by omega)) l[j] := List.pairwise_iff_getElem.mp h.srt i j (by omega) hj hij
theorem run_seq {l : List Record} (h : Run l) {i j : Nat} (hij : i < j) (hj : j < l.length) : (l[i]'(by omega)).Seq ≠ l[j].Seq := fun e => by
  have := h.inj _ (List.getElem_mem (show i < l.length by omega)) _ (List.getElem_mem hj) e
  have h2 := run_lt h hij hj
  rw [this] at h2
  exact RL_irr _ h2
theorem pl_iRun {l : List Record} (h : Run l) (hl : l.length ≤ 1000000) : p_impl_ValidRun l = some true := by
  unfold p_impl_ValidRun
  rw [grd_pos (by omega)]
  refine forK_rule (fun i v => ∀ n, mgetT v n false = true → ∃ j, ∃ (hj : j < l.length), j < i ∧ l[j].Seq = n) (fun i hi v hv nx hnx => ?_) (fun v hv => rfl) _ (fun n hn => by simp [mgetT] at hn)
  rw [pl_iRec, callK_some, h.ok _ (List.getElem_mem hi), if_pos rfl]
  have hno : mgetT v l[i].Seq false = false := by
    cases hm : mgetT v l[i].Seq false
    · rfl
    · obtain ⟨j, hj, hji, e⟩ := hv _ hm
      exact absurd e (run_seq h hji hi)
  have hput : ∀ n, mgetT (mputT v l[i].Seq true) n false = true → ∃ j, ∃ (hj : j < l.length), j < i + 1 ∧ l[j].Seq = n := fun n hn => by
    rw [mget_put n 0] at hn
    by_cases e : n = l[i].Seq
    · exact ⟨i, hi, by omega, e.symm⟩
    · rw [if_neg e] at hn
      obtain ⟨j, hj, hji, e⟩ := hv n hn
      exact ⟨j, hj, by omega, e⟩
  rw [hno, if_neg (by decide)]
  by_cases h0 : (i : Int) > 0
  · have hw : IntKind.i64.wrap ((i : Int) - 1) = ((i - 1 : Nat) : Int) := by rw [wrap_sm _ (by omega) (by omega)]; omega
    rw [if_pos h0, hw, getK_lt (by omega), pl_iLess, callK_some, rl_iff.mpr (run_lt h (show i - 1 < i by omega) hi), if_pos rfl]
    exact hnx _ hput
  · rw [if_neg h0]
    exact hnx _ hput
theorem pl_sRun {l : List Record} (h : Run l) (hl : l.length ≤ 1000000) : p_spec_l17Run l = some true := by
  unfold p_spec_l17Run
  rw [grd_pos (by omega)]
  refine forK_rule (fun i v => True) (fun i hi v hv nx hnx => ?_) (fun v hv => rfl) _ trivial
  rw [pl_sRec, callK_some, h.ok _ (List.getElem_mem hi), if_pos rfl]
  have inner : (forI (i : Int) (fun (j : Nat) (_ : Unit) (nx40 : Unit → Option Bool) => getK l (j : Int) fun x41 => if x41.Seq = l[i].Seq then some false else nx40 ()) () fun (_ : Unit) => nx ()) = some true := by
    refine forI_rule (fun _ _ => True) (fun j hj s _ nx2 hnx2 => ?_) (fun s _ => hnx () trivial) () trivial
    rw [getK_lt (show j < l.length by omega), if_neg (run_seq h (show j < i by omega) hi)]
    exact hnx2 () trivial
  by_cases h0 : (i : Int) > 0
  · have hw : IntKind.i64.wrap ((i : Int) - 1) = ((i - 1 : Nat) : Int) := by rw [wrap_sm _ (by omega) (by omega)]; omega
    rw [if_pos h0, hw, getK_lt (by omega), pl_sLess, callK_some, rl_iff.mpr (run_lt h (show i - 1 < i by omega) hi), if_pos rfl, grd_pos (by omega)]
    exact inner
  · rw [if_neg h0, grd_pos (by omega)]
    exact inner
theorem rec_eq (x r : Record) : ((x.Key.toList == r.Key.toList) && ((x.Seq == r.Seq) && ((x.Kind == r.Kind) && ((x.Value.toList == r.Value.toList) && ((x.End.toList == r.End.toList) && true))))) = @decide (x = r) (Classical.propDecidable _) := by
  rw [Bool.eq_iff_iff, @decide_eq_true_iff _ (Classical.propDecidable _)]
  simp only [str_eq, Bool.and_eq_true, beq_iff_eq, decide_eq_true_eq, and_true]
  constructor
  · rintro ⟨h1, h2, h3, h4, h5⟩
    cases x; cases r
    simp_all
  · rintro rfl; simp
theorem cut0 {α : Type} (l : List α) (n : Nat) : (l.drop (Int.toNat 0)).take (Int.toNat (n : Int) - Int.toNat 0) = l.take n := by simp
theorem cutE {α : Type} (l : List α) (n : Nat) : (l.drop (Int.toNat (n : Int))).take (Int.toNat (l.length : Int) - Int.toNat (n : Int)) = l.drop n := by
  rw [Int.toNat_natCast, Int.toNat_natCast]
  exact List.take_of_length_le (by rw [List.length_drop]; exact Nat.le_refl _)
theorem pl_into {l : List Record} (r : Record) (hl : l.length ≤ 1000000) : p_spec_l17Into l r = some (into l r) := by
  unfold p_spec_l17Into
  rw [grd_pos (by omega)]
  refine forK_rule (fun i _ => ∀ j, ∀ (hj : j < l.length), j < i → rl l[j] r = true) (fun i hi v hv nx hnx => ?_) (fun v hv => ?_) () (fun j hj h => by omega)
  · rw [pl_sLess, callK_some]
    cases hc : rl l[i] r
    · rw [if_neg (by decide), rec_eq, into_at hi (fun j hj => hv j (by omega) hj) hc]
      by_cases e : l[i] = r
      · rw [if_pos (by simpa using e), if_pos e]
      · rw [if_neg (by simpa using e), if_neg e, cut0, cutE, grd_pos (by omega), grd_pos (appOk_of _ _ (by rw [List.length_take]; omega)), grd_pos (appOk_of _ _ (by rw [List.length_take]; omega)), grd_pos (by omega),
          grd_pos (appOk_of _ _ (by simp only [List.length_append, List.length_take, List.length_drop, List.length_cons, List.length_nil]; omega))]
        simp
    · rw [if_pos rfl]
      refine hnx () fun j hj h => ?_
      by_cases e : j = i
      · subst e; exact hc
      · exact hv j hj (by omega)
  · rw [cut0, cutE, grd_pos (by omega), grd_pos (appOk_of _ _ (by rw [List.length_take]; omega)), grd_pos (appOk_of _ _ (by rw [List.length_take]; omega)), grd_pos (by omega),
      grd_pos (appOk_of _ _ (by simp only [List.length_append, List.length_take, List.length_drop, List.length_cons, List.length_nil]; omega))]
    rw [into_end (fun x hx => by obtain ⟨j, hj, rfl⟩ := List.mem_iff_getElem.mp hx; exact hv j hj hj)]
    simp
theorem fold_into_le : ∀ (l acc : List Record), (l.foldl into acc).length ≤ acc.length + l.length
  | [], acc => by simp
  | y :: l, acc => by
    rw [List.foldl_cons]
    have h1 := fold_into_le l (into acc y)
    have h2 := into_len_le y acc
    rw [List.length_cons]; omega
/-- What may be seen of a run. -/
theorem pl_newest {l : List Record} (h : Run l) (hl : l.length ≤ 1000000) (k : ByteArray) (s : Int) : ∃ n, p_spec_l17Newest l k s = some (n, decide (n.Seq > 0)) ∧ New l k s n := by
  unfold p_spec_l17Newest
  rw [grd_pos (by omega)]
  obtain ⟨r, e, n, e2, h1, h2⟩ := forK_ex (l := l) (f := fun (i9 : Nat) x12 (v10 : Record) (nx11 : Record → Option (Record × Bool)) =>
      callK (p_spec_l17Affects x12 k) fun y13 =>
      if y13 = true then
        if x12.Seq ≤ s then
          if x12.Seq > v10.Seq then nx11 x12 else nx11 v10
        else nx11 v10
      else nx11 v10) (k := fun (v10 : Record) => some (v10, (decide (v10.Seq > 0)))) (Q := fun r => ∃ n, r = (n, decide (n.Seq > 0)) ∧ (n = zR ∨ (n ∈ l ∧ aff n k = true ∧ n.Seq ≤ s)) ∧ ∀ x ∈ l, aff x k = true → x.Seq ≤ s → x.Seq ≤ n.Seq)
    (fun i v => (v = zR ∨ (v ∈ l ∧ aff v k = true ∧ v.Seq ≤ s)) ∧ ∀ x ∈ l.take i, aff x k = true → x.Seq ≤ s → x.Seq ≤ v.Seq)
    (fun i hi v hv nx hnx => by
      obtain ⟨g1, g2⟩ := hv
      have keep : (aff l[i] k = true → l[i].Seq ≤ s → l[i].Seq ≤ v.Seq) → ∃ r, nx v = some r ∧ _ := fun hk => hnx v ⟨g1, fun x hx => by
        rw [List.take_succ_eq_append_getElem hi] at hx
        rcases List.mem_append.mp hx with hx | hx
        · exact g2 x hx
        · rw [List.mem_singleton] at hx; subst hx; exact hk⟩
      rw [pl_sAff, callK_some]
      by_cases ha : aff l[i] k = true
      · rw [if_pos ha]
        by_cases hs : l[i].Seq ≤ s
        · rw [if_pos hs]
          by_cases ht : l[i].Seq > v.Seq
          · rw [if_pos ht]
            refine hnx _ ⟨.inr ⟨List.getElem_mem hi, ha, hs⟩, fun x hx h3 h4 => ?_⟩
            rw [List.take_succ_eq_append_getElem hi] at hx
            rcases List.mem_append.mp hx with hx | hx
            · have := g2 x hx h3 h4; omega
            · rw [List.mem_singleton] at hx; subst hx; exact Int.le_refl _
          · rw [if_neg ht]
            exact keep fun _ _ => by omega
        · rw [if_neg hs]
          exact keep fun _ h => absurd h hs
      · rw [if_neg ha]
        exact keep fun h => absurd h ha)
    (fun v hv => ⟨_, rfl, v, rfl, hv.1, by have := hv.2; rwa [List.take_length] at this⟩) zR ⟨.inl rfl, by simp⟩
  subst e2
  exact ⟨n, e, h1, h2⟩
noncomputable def nw (l : List Record) (k : ByteArray) (s : Int) : Record := ((p_spec_l17Newest l k s).getD (zR, false)).1
theorem nw_ok {l : List Record} (h : Run l) (hl : l.length ≤ 1000000) (k : ByteArray) (s : Int) : p_spec_l17Newest l k s = some (nw l k s, decide ((nw l k s).Seq > 0)) ∧ New l k s (nw l k s) := by
  obtain ⟨n, e, hn⟩ := pl_newest h hl k s
  have : nw l k s = n := by unfold nw; rw [e]; rfl
  rw [this]
  exact ⟨e, hn⟩
noncomputable def gv (l : List Record) (s : Int) (k : ByteArray) : Option ByteArray := getV (nw l k s)
theorem pl_get {l : List Record} (h : Run l) (hl : l.length ≤ 1000000) (k : ByteArray) (s : Int) : p_spec_l24Get l k s = some (match gv l s k with
    | some v => (v, true)
    | none => (⟨#[]⟩, false)) := by
  obtain ⟨e, hn⟩ := nw_ok h hl k s
  unfold p_spec_l24Get gv getV
  rw [e, callK_some]
  dsimp only
  generalize nw l k s = n
  by_cases h1 : n.Seq > 0
  · rw [if_pos (by simpa using h1)]
    by_cases h2 : n.Kind = 1
    · rw [if_neg (by simpa using h2), if_pos ⟨h1, h2⟩]
    · rw [if_pos h2, if_neg (fun h => h2 h.2)]
  · rw [if_neg (by simpa using h1), if_neg (fun h => h1 h.1)]
theorem pl_vis {l : List Record} (h : Run l) (hl : l.length ≤ 1000000) (s : Int) : p_spec_l24Visible l ⟨#[]⟩ ⟨#[]⟩ s = some (visOf (gv l s) (keysOf l)) := by
  unfold p_spec_l24Visible
  rw [grd_pos (by omega)]
  refine forK_rule (fun i (v : ByteArray × List Pair) => v.2 ++ visOf (gv l s) (keysG v.1 (l.drop i)) = visOf (gv l s) (keysOf l) ∧ v.2.length ≤ i) (fun i hi v hv nx hnx => ?_) (fun v hv => ?_) _ ⟨by simp [keysOf], by simp⟩
  · obtain ⟨v15, v16⟩ := v
    obtain ⟨g1, g2⟩ := hv
    dsimp only at g1 g2 ⊢
    rw [List.drop_eq_getElem_cons hi, keysG] at g1
    by_cases hk : (l[i].Key.toList == v15.toList) = true
    · rw [if_pos hk] at g1 ⊢
      exact hnx _ ⟨g1, by dsimp only; omega⟩
    · rw [if_neg hk] at g1 ⊢
      rw [if_neg (show ¬ Op.bytesLess l[i].Key.toList (⟨#[]⟩ : ByteArray).toList = true from kl_empty _), if_pos (by simp), pl_get h hl, callK_some]
      unfold visOf at g1
      rw [List.filterMap_cons] at g1
      cases hg : gv l s l[i].Key with
      | none =>
        rw [hg] at g1
        dsimp only [Option.map_none] at g1 ⊢
        rw [if_neg (by decide)]
        exact hnx _ ⟨g1, by dsimp only; omega⟩
      | some x =>
        rw [hg] at g1
        dsimp only [Option.map_some] at g1 ⊢
        rw [if_pos rfl, grd_pos (appOk_of _ _ (by omega))]
        exact hnx _ ⟨by dsimp only; rw [List.append_assoc]; exact g1, by simp; omega⟩
  · obtain ⟨v15, v16⟩ := v
    obtain ⟨g1, g2⟩ := hv
    dsimp only at g1 ⊢
    rw [List.drop_length] at g1
    simp only [keysG, visOf, List.filterMap_nil, List.append_nil] at g1
    rw [g1]; rfl
theorem pl_visAt {l : List Record} (h : Run l) (hl : l.length ≤ 1000000) (s : Int) : p_spec_VisibleAt l s = some (visOf (gv l s) (keysOf l)) := by
  unfold p_spec_VisibleAt
  rw [pl_sRun h hl, callK_some, if_pos rfl, pl_vis h hl, callK_some]
theorem visOf_len (g : ByteArray → Option ByteArray) (ks : List ByteArray) : (visOf g ks).length ≤ ks.length := List.length_filterMap_le _ _
theorem keysG_len : ∀ (l : List Record) (last : ByteArray), (keysG last l).length ≤ l.length
  | [], _ => by simp [keysG]
  | x :: l, last => by
    unfold keysG
    split
    · have := keysG_len l last; simp only [List.length_cons]; omega
    · have := keysG_len l x.Key; simp only [List.length_cons]; omega
theorem pl_sameP (l : List Pair) (h : l.length ≤ 1000000) : p_spec_SamePairs l l = some true := by
  unfold p_spec_SamePairs
  rw [if_neg (by simp), grd_pos (by omega)]
  exact forK_rule (fun _ _ => True) (fun i hi s _ nx hnx => by rw [getK_lt hi, if_pos (by simp)]; exact hnx () trivial) (fun s _ => rfl) () trivial
/-! ### The draw of a run -/
theorem text_ok {b : Int} {s : Sl00Src} (l : List ByteArray) (hl : 0 < l.length) (hb : 0 ≤ b) (h : SrcOk (b + 2) s) : ∃ r s', p_spec_l00Src_text l s = some (r, s') ∧ r ∈ l ∧ SrcOk b s' := by
  obtain ⟨r, s1, e1, ⟨b1, b2, b3⟩, o1⟩ := pick_ok (l.length : Int) hb h
  unfold p_spec_l00Src_text
  have hr : r < (l.length : Int) := by
    rcases Nat.lt_or_ge 1 l.length with h | h
    · exact b2 (by omega)
    · have := b3 (by omega); omega
  rw [e1, callK_some, getK_in b1 hr]
  exact ⟨_, _, rfl, List.getElem_mem _, o1⟩
theorem okRec_mk {k v e : ByteArray} {q kd : Int} (hk : okKey k = true) (hq : 1 ≤ q ∧ q ≤ 1000000) (h : (kd = 1 ∧ (v.size : Int) ≤ 16 ∧ e = ⟨#[]⟩) ∨ (kd = 2 ∧ v = ⟨#[]⟩ ∧ e = ⟨#[]⟩) ∨ (kd = 3 ∧ v = ⟨#[]⟩ ∧ okKey e = true ∧ kl k e)) : okRec ⟨k, q, kd, v, e⟩ = true := by
  unfold okRec
  dsimp only
  rw [hk, inR_iff.mpr hq]
  rcases h with ⟨rfl, h1, rfl⟩ | ⟨rfl, rfl, rfl⟩ | ⟨rfl, rfl, h1, h2⟩
  · rw [if_pos rfl, isE_iff.mpr rfl]; simp [h1]
  · rw [if_neg (by decide), if_pos rfl, isE_iff.mpr rfl]; rfl
  · rw [if_neg (by decide), if_neg (by decide), if_pos rfl, isE_iff.mpr rfl, h1, show Op.bytesLess k.toList e.toList = true from h2]; rfl
theorem draw_ok {b q : Int} {s : Sl00Src} (hb : 0 ≤ b) (hq : 1 ≤ q ∧ q ≤ 1000000) (h : SrcOk (b + 10) s) : ∃ r s', p_spec_l17Draw q s = some (r, s') ∧ r.Seq = q ∧ okRec r = true ∧ SrcOk b s' := by
  unfold p_spec_l17Draw p_spec_l17DrawKey
  obtain ⟨k, s1, e1, m1, o1⟩ := text_ok (b := b + 8) (s := s) ([(⟨#[97]⟩ : ByteArray), (⟨#[98]⟩ : ByteArray), (⟨#[99]⟩ : ByteArray), (⟨#[100]⟩ : ByteArray), (⟨#[101]⟩ : ByteArray), (⟨#[97, 98]⟩ : ByteArray), (⟨#[98, 49]⟩ : ByteArray), (⟨#[107, 101, 121, 56, 98, 121, 116, 101]⟩ : ByteArray), (⟨#[0]⟩ : ByteArray), (⟨#[255, 255]⟩ : ByteArray)] : List ByteArray) (by simp) (by omega) (h.le (by omega))
  rw [e1, callK_some, callK_some]
  have hk : okKey k = true := by
    simp only [List.mem_cons, List.not_mem_nil, or_false] at m1
    rcases m1 with rfl | rfl | rfl | rfl | rfl | rfl | rfl | rfl | rfl | rfl <;> rfl
  obtain ⟨y2, s2, e2, m2, o2⟩ := among_ok (b := b + 6) (s := s1) ([1, 1, 1, 2, 3] : List Int) (by simp) (by omega) (o1.le (by omega))
  dsimp only
  rw [e2, callK_some]
  dsimp only
  by_cases k1 : y2 = 1
  · rw [if_pos k1]
    obtain ⟨v, s3, e3, m3, o3⟩ := text_ok (b := b + 4) (s := s2) ([(⟨#[]⟩ : ByteArray), (⟨#[49]⟩ : ByteArray), (⟨#[116, 119, 111]⟩ : ByteArray), (⟨#[115, 105, 120, 116, 101, 101, 110, 32, 98, 121, 116, 101, 115, 32, 111, 107]⟩ : ByteArray), (⟨#[0]⟩ : ByteArray)] : List ByteArray) (by simp) (by omega) (o2.le (by omega))
    have hv : (v.size : Int) ≤ 16 := by
      simp only [List.mem_cons, List.not_mem_nil, or_false] at m3
      rcases m3 with rfl | rfl | rfl | rfl | rfl <;> decide
    rw [e3, callK_some]
    exact ⟨_, _, rfl, rfl, okRec_mk hk hq (.inl ⟨k1, hv, rfl⟩), o3.le (by omega)⟩
  · rw [if_neg k1]
    by_cases k3 : y2 = 3
    · rw [if_pos k3]
      obtain ⟨x, s3, e3, m3, o3⟩ := text_ok (b := b + 4) (s := s2) ([(⟨#[97]⟩ : ByteArray), (⟨#[98]⟩ : ByteArray), (⟨#[97, 98]⟩ : ByteArray), (⟨#[99]⟩ : ByteArray)] : List ByteArray) (by simp) (by omega) (o2.le (by omega))
      obtain ⟨z, s4, e4, m4, o4⟩ := text_ok (b := b + 2) (s := s3) ([(⟨#[100]⟩ : ByteArray), (⟨#[101]⟩ : ByteArray), (⟨#[98, 49, 0]⟩ : ByteArray), (⟨#[255]⟩ : ByteArray)] : List ByteArray) (by simp) (by omega) (o3.le (by omega))
      rw [e3, callK_some]
      dsimp only
      rw [e4, callK_some]
      dsimp only
      simp only [List.mem_cons, List.not_mem_nil, or_false] at m3 m4
      have hx : okKey x = true := by rcases m3 with rfl | rfl | rfl | rfl <;> rfl
      by_cases hl : Op.bytesLess x.toList z.toList = true
      · rw [if_pos hl]
        refine ⟨_, _, rfl, rfl, okRec_mk hx hq (.inr (.inr ⟨k3, rfl, ?_, hl⟩)), o4.le (by omega)⟩
        rcases m4 with rfl | rfl | rfl | rfl <;> rfl
      · rw [if_neg hl]
        refine ⟨_, _, rfl, rfl, okRec_mk hx hq (.inr (.inr ⟨k3, rfl, rfl, ?_⟩)), o4.le (by omega)⟩
        unfold kl
        rw [toList_data, toList_data]
        rcases m3 with rfl | rfl | rfl | rfl <;> decide
    · rw [if_neg k3]
      have k2 : y2 = 2 := by
        simp only [List.mem_cons, List.not_mem_nil, or_false] at m2
        omega
      exact ⟨_, _, rfl, rfl, okRec_mk hk hq (.inr (.inl ⟨k2, rfl, rfl⟩)), o2.le (by omega)⟩
theorem drawRun_ok {n : Int} {s : Sl00Src} (hn : 0 ≤ n ∧ n ≤ 1000) (h : SrcOk 100000 s) : ∃ l s', p_spec_l17DrawRun n s = some (l, s') ∧ Run l ∧ (l.length : Int) ≤ n ∧ SrcOk 1000 s' := by
  unfold p_spec_l17DrawRun
  obtain ⟨y1, s1, e1, ⟨b1, b1', _⟩, o1⟩ := pick_ok (b := 90000) 3 (by omega) (h.le (by omega))
  have b1' := b1' (by omega)
  have w1 : IntKind.i64.wrap (n + 1) = n + 1 := wrap_sm _ (by omega) (by omega)
  obtain ⟨y2, s2, e2, ⟨b2, b2', b2''⟩, o2⟩ := pick_ok (b := 80000) (n + 1) (by omega) (o1.le (by omega))
  have hy2 : y2 ≤ n := by
    by_cases hc : 1 < n + 1
    · have := b2' hc; omega
    · have := b2'' (by omega); omega
  rw [e1, callK_some, w1, e2, callK_some]
  dsimp only
  obtain ⟨r, e, g1, g2, g3⟩ := iterK_ex (Q := fun (r : List Record × Sl00Src) => Run r.1 ∧ (r.1.length : Int) ≤ n ∧ SrcOk 1000 r.2)
    (f := fun ((v3, v4, v5, v6) : ((List Record) × Int × Int × Sl00Src)) (nx7 : ((List Record) × Int × Int × Sl00Src) → Option (List Record × Sl00Src)) =>
      if v5 > 0 then
        callK (p_spec_l00Src_pick 2 v6) fun y9 =>
        callK (p_spec_l17Draw (IntKind.i64.wrap (v4 + (IntKind.i64.wrap (1 + y9.1)))) y9.2) fun y10 =>
        callK (p_spec_l17Into v3 y10.1) fun y11 =>
        nx7 (y11, (IntKind.i64.wrap (v4 + (IntKind.i64.wrap (1 + y9.1)))), (IntKind.i64.wrap (v5 - 1)), y10.2)
      else
        some (v3, v6))
    (fun d s => s.2.2.1 = d ∧ (d : Int) ≤ n ∧ Run s.1 ∧ (s.1.length : Int) + d ≤ n ∧ (∀ x ∈ s.1, x.Seq ≤ s.2.1) ∧ 0 ≤ s.2.1 ∧ s.2.1 + 2 * d ≤ 2 + 2 * n ∧ SrcOk (1000 + d * 20) s.2.2.2)
    (fun d s hs nx hnx => by
      obtain ⟨v3, v4, v5, v6⟩ := s
      obtain ⟨h1, h2, h3, h4, h5, h6, h7, h8⟩ := hs
      dsimp only at h1 h3 h4 h5 h6 h7 h8 ⊢
      subst h1
      by_cases hd : (d : Int) > 0
      · rw [if_pos hd]
        obtain ⟨a, sa, ea, ⟨ba, ba', _⟩, oa⟩ := pick_ok (b := 1000 + (d : Int) * 20 - 4) 2 (by omega) (h8.le (by omega))
        have ba' := ba' (by omega)
        have wa : IntKind.i64.wrap (1 + a) = 1 + a := wrap_sm _ (by omega) (by omega)
        have wb : IntKind.i64.wrap (v4 + (1 + a)) = v4 + (1 + a) := wrap_sm _ (by omega) (by omega)
        rw [ea, callK_some]
        dsimp only
        rw [wa, wb]
        obtain ⟨c, sc, ec, c1, c2, oc⟩ := draw_ok (b := 1000 + (d : Int) * 20 - 20) (q := v4 + (1 + a)) (by omega) (by omega) (oa.le (by omega))
        rw [ec, callK_some]
        dsimp only
        rw [pl_into _ (by omega), callK_some]
        have w : IntKind.i64.wrap ((d : Int) - 1) = ((d - 1 : Nat) : Int) := by rw [wrap_sm _ (by omega) (by omega)]; omega
        rw [w]
        have hin := into_len_le c v3
        refine hnx (d - 1) (into v3 c, v4 + (1 + a), ((d - 1 : Nat) : Int), sc) (by omega) ⟨rfl, by omega, h3.into c2 (fun x hx => by have := h5 x hx; omega), by dsimp only; omega, fun x hx => ?_, by dsimp only; omega, by dsimp only; omega, oc.le (by omega)⟩
        dsimp only at hx ⊢
        rcases into_mem.mp hx with hx | rfl
        · have := h5 x hx; omega
        · omega
      · rw [if_neg hd]
        exact ⟨_, rfl, h3, by dsimp only; omega, h8.le (by omega)⟩)
    y2.toNat ([], y1, y2, s2) (by unfold NN; omega) ⟨by show y2 = _; omega, by omega, .nil, by simp; omega, by simp, by show 0 ≤ y1; omega, by show y1 + 2 * _ ≤ _; omega, o2.le (by omega)⟩
  exact ⟨r.1, r.2, e, g1, g2, g3⟩

theorem a8Run_ok {code : List Int} {n : Int} (hn : 0 ≤ n ∧ n ≤ 1000) (h : ∀ x ∈ code, 0 ≤ x ∧ x ≤ 255) (hl : code.length ≤ 1048576) : ∃ l, p_spec_A8Run code n = some l ∧ Run l ∧ (l.length : Int) ≤ n := by
  unfold p_spec_A8Run
  obtain ⟨s, e0, o0⟩ := from_ok h hl
  obtain ⟨l, s', e1, h1, h2, _⟩ := drawRun_ok hn (o0.le (by omega))
  rw [e0, callK_some, e1, callK_some]
  exact ⟨_, rfl, h1, h2⟩

theorem a8At_in (code : List Int) (i n : Int) (h : ∀ x ∈ code, 0 ≤ x ∧ x ≤ 255) (hi : 0 ≤ i ∧ i ≤ 1000) (hl : code.length ≤ 1000000) : ∃ r, p_laws_a8At code i n = some r ∧ 0 ≤ r ∧ (1 < n → r < n) ∧ (n ≤ 1 → r = 0) := by
  unfold p_laws_a8At
  by_cases hn : n ≤ 1
  · rw [if_pos hn]
    exact ⟨0, rfl, by omega, by omega, fun _ => rfl⟩
  have w0 : IntKind.i64.wrap (i * 7) = i * 7 := wrap_sm _ (by omega) (by omega)
  have w00 : IntKind.i64.wrap (i * 7 + 3) = i * 7 + 3 := wrap_sm _ (by omega) (by omega)
  rw [if_neg hn, grd_pos (by omega), w0, w00]
  refine forK_ex (fun _ (v : Int) => 0 ≤ v ∧ v ≤ 1000003) (fun i hi v hv nx hnx => ?_) (fun v hv => ?_) _ (by omega)
  · have hx := h _ (List.getElem_mem hi)
    have w1 : IntKind.i64.wrap (v * 31) = v * 31 := wrap_sm _ (by omega) (by omega)
    have w2 : IntKind.i64.wrap code[i] = code[i] := wrap_sm _ (by omega) (by omega)
    have w3 : IntKind.i64.wrap (v * 31 + code[i]) = v * 31 + code[i] := wrap_sm _ (by omega) (by omega)
    rw [w1, w2, w3]
    exact hnx _ ⟨Int.tmod_nonneg _ (by omega), Int.le_of_lt (Int.tmod_lt_of_pos _ (by omega))⟩
  · rw [grd_pos (by omega)]
    exact ⟨_, rfl, Int.tmod_nonneg _ hv.1, fun _ => Int.tmod_lt_of_pos _ (by omega), fun h => absurd h hn⟩
/-! ### A state and its updates -/
def pl2 (a b : Pair) : Prop := kl a.Key b.Key
structure State (s : List Pair) : Prop where
  ok : ∀ p ∈ s, okKey p.Key = true ∧ p.Value.size ≤ 16
  srt : s.Pairwise pl2
theorem pl_pairs {s : List Pair} (h : State s) (hl : s.length ≤ 1000000) : p_impl_pairsOk s = some true := by
  unfold p_impl_pairsOk
  rw [grd_pos (by omega)]
  refine forK_rule (fun _ _ => True) (fun i hi _ _ nx hnx => ?_) (fun s _ => rfl) () trivial
  obtain ⟨h1, h2⟩ := h.ok _ (List.getElem_mem hi)
  rw [pl_iKey, callK_some, if_pos h1, if_neg (by omega)]
  by_cases h0 : (i : Int) > 0
  · rw [if_pos h0, wrap_sm _ (by omega) (by omega), show (i : Int) - 1 = ((i - 1 : Nat) : Int) by omega, getK_lt (by omega)]
    have hlt : kl (s[i - 1]'(by omega)).Key s[i].Key := List.pairwise_iff_getElem.mp h.srt (i - 1) i (by omega) hi (by omega)
    rw [if_neg (fun hc => by
      rw [Bool.or_eq_true] at hc
      rcases hc with hc | hc
      · exact kl_as hlt hc
      · rw [str_eq, decide_eq_true_eq] at hc
        exact kl_ne hlt hc.symm)]
    exact hnx () trivial
  · rw [if_neg h0]; exact hnx () trivial
theorem half2 (n : Int) (h : 0 ≤ n ∧ n ≤ 99) : IntKind.i64.wrap (Int.fdiv (IntKind.u64.wrap (IntKind.i64.wrap n)) (2 ^ (min (Int.toNat 1) IntKind.u64.bits))) = n / 2 := by
  obtain ⟨k, rfl⟩ := Int.eq_ofNat_of_zero_le h.1
  have : ∀ k : Fin 100, IntKind.i64.wrap (Int.fdiv (IntKind.u64.wrap (IntKind.i64.wrap (k.val : Int))) (2 ^ (min (Int.toNat 1) IntKind.u64.bits))) = (k.val : Int) / 2 := by decide +kernel
  exact this ⟨k, by omega⟩
theorem pl_find {s : List Pair} (hs : s.Pairwise pl2) (hl : s.length ≤ 40) (k : ByteArray) : ∃ (i : Nat) (b : Bool), p_slices_BinarySearchFunc_impl_applied_c2 k s = some ((i : Int), b) ∧ i ≤ s.length ∧ (∀ j (hj : j < s.length), j < i → kl s[j].Key k) ∧ (∀ j (hj : j < s.length), i ≤ j → ¬ kl s[j].Key k) := by
  unfold p_slices_BinarySearchFunc_impl_applied_c2
  obtain ⟨y, e, i, b, rfl, h1, h2, h3⟩ := iterK_ex (Q := fun (y : Int × Bool) => ∃ (i : Nat) (b : Bool), y = ((i : Int), b) ∧ i ≤ s.length ∧ (∀ j (hj : j < s.length), j < i → kl s[j].Key k) ∧ (∀ j (hj : j < s.length), i ≤ j → ¬ kl s[j].Key k))
    (f := fun ((v1, v2) : (Int × Int)) (nx3 : (Int × Int) → Option (Int × Bool)) =>
    if v1 < v2 then
      getK s (IntKind.i64.wrap (Int.fdiv (IntKind.u64.wrap (IntKind.i64.wrap (v1 + v2))) (2 ^ (min (Int.toNat 1) IntKind.u64.bits)))) fun x5 =>
      callK (p_impl_applied_c2 x5 k) fun y6 =>
      if y6 < 0 then
        nx3 ((IntKind.i64.wrap ((IntKind.i64.wrap (Int.fdiv (IntKind.u64.wrap (IntKind.i64.wrap (v1 + v2))) (2 ^ (min (Int.toNat 1) IntKind.u64.bits)))) + 1)), v2)
      else
        nx3 (v1, (IntKind.i64.wrap (Int.fdiv (IntKind.u64.wrap (IntKind.i64.wrap (v1 + v2))) (2 ^ (min (Int.toNat 1) IntKind.u64.bits)))))
    else
      if v1 < (s.length : Int) then
        getK s v1 fun x9 =>
        callK (p_impl_applied_c2 x9 k) fun y10 =>
        some (v1, (y10 == 0))
      else
        some (v1, false))
    (fun d t => ∃ a b : Nat, t = ((a : Int), (b : Int)) ∧ a ≤ b ∧ b ≤ s.length ∧ d = b - a ∧ (∀ j (hj : j < s.length), j < a → kl s[j].Key k) ∧ (∀ j (hj : j < s.length), b ≤ j → ¬ kl s[j].Key k)) (fun d t ht nx hnx => by
      obtain ⟨a, b, rfl, g1, g2, rfl, g3, g4⟩ := ht
      dsimp only
      by_cases hd : (a : Int) < (b : Int)
      · rw [if_pos hd]
        have hw := half2 ((a : Int) + (b : Int)) (by omega)
        have hm : ((a : Int) + (b : Int)) / 2 = (((a + b) / 2 : Nat) : Int) := by omega
        rw [hw, hm, getK_lt (by omega)]
        have hc : p_impl_applied_c2 (s[(a + b) / 2]'(by omega)) k = some (cmpB (s[(a + b) / 2]'(by omega)).Key k) := rfl
        rw [hc, callK_some]
        have hmono : ∀ i j (hi : i < s.length) (hj : j < s.length), i < j → kl s[i].Key s[j].Key := fun i j hi hj hij => List.pairwise_iff_getElem.mp hs i j hi hj hij
        by_cases hlt : cmpB (s[(a + b) / 2]'(by omega)).Key k < 0
        · rw [if_pos hlt, wrap_sm _ (by omega) (by omega)]
          rw [cmpB_lt] at hlt
          refine hnx (b - ((a + b) / 2 + 1)) _ (by omega) ⟨(a + b) / 2 + 1, b, by simp, by omega, g2, rfl, fun j hj hja => ?_, g4⟩
          by_cases hjm : j = (a + b) / 2
          · subst hjm; exact hlt
          · exact kl_tr _ _ _ (hmono j ((a + b) / 2) hj (by omega) (by omega)) hlt
        · rw [if_neg hlt]
          rw [cmpB_lt] at hlt
          refine hnx ((a + b) / 2 - a) _ (by omega) ⟨a, (a + b) / 2, rfl, by omega, by omega, rfl, g3, fun j hj hja hk => ?_⟩
          by_cases hjm : j = (a + b) / 2
          · subst hjm; exact hlt hk
          · exact hlt (kl_tr _ _ _ (hmono ((a + b) / 2) j (by omega) hj (by omega)) hk)
      · have : a = b := by omega
        subst this
        rw [if_neg hd]
        by_cases hz : (a : Int) < (s.length : Int)
        · rw [if_pos hz, getK_lt (by omega)]
          have hc : p_impl_applied_c2 (s[a]'(by omega)) k = some (cmpB (s[a]'(by omega)).Key k) := rfl
          rw [hc, callK_some]
          exact ⟨_, rfl, a, _, rfl, g2, g3, g4⟩
        · rw [if_neg hz]
          exact ⟨_, rfl, a, _, rfl, g2, g3, g4⟩)
    s.length (0, (s.length : Int)) (by unfold NN; omega) ⟨0, s.length, rfl, by omega, Nat.le_refl _, by omega, fun j hj h => by omega, fun j hj h => by omega⟩
  exact ⟨i, b, e, h1, h2, h3⟩
/-- A state after an update. -/
noncomputable def upd (s : List Pair) (r : Record) : List Pair :=
  let t := s.filter fun p => !aff r p.Key
  if r.Kind = 1 then (t.filter fun p => @decide (kl p.Key r.Key) (Classical.propDecidable _)) ++ ⟨r.Key, r.Value⟩ :: (t.filter fun p => !@decide (kl p.Key r.Key) (Classical.propDecidable _)) else t
theorem filter_cut {α : Type} (p : α → Bool) : ∀ {l : List α} {i : Nat}, i ≤ l.length → (∀ j (hj : j < l.length), j < i → p l[j] = true) → (∀ j (hj : j < l.length), i ≤ j → p l[j] = false) → l.filter p = l.take i ∧ l.filter (fun x => !p x) = l.drop i := by
  intro l i hi h1 h2
  have a : (l.take i).filter p = l.take i := List.filter_eq_self.mpr fun x hx => by
    obtain ⟨j, hj, rfl⟩ := List.mem_take_iff_getElem.mp hx
    exact h1 j (by omega) (by omega)
  have b : (l.drop i).filter p = [] := List.filter_eq_nil_iff.mpr fun x hx => by
    obtain ⟨j, hj, rfl⟩ := List.mem_drop_iff_getElem.mp hx
    have := h2 (i + j) (by omega) (by omega)
    simp [this]
  have c : (l.take i).filter (fun x => !p x) = [] := List.filter_eq_nil_iff.mpr fun x hx => by
    obtain ⟨j, hj, rfl⟩ := List.mem_take_iff_getElem.mp hx
    have := h1 j (by omega) (by omega)
    simp [this]
  have d : (l.drop i).filter (fun x => !p x) = l.drop i := List.filter_eq_self.mpr fun x hx => by
    obtain ⟨j, hj, rfl⟩ := List.mem_drop_iff_getElem.mp hx
    have := h2 (i + j) (by omega) (by omega)
    simp [this]
  constructor
  · conv => lhs; rw [← List.take_append_drop i l]
    rw [List.filter_append, a, b, List.append_nil]
  · conv => lhs; rw [← List.take_append_drop i l]
    rw [List.filter_append, c, d, List.nil_append]
theorem pl_applied {s : List Pair} (h : State s) (hl : s.length ≤ 39) (r : Record) : p_impl_applied s r = some (upd s r) := by
  have hd : p_slices_DeleteFunc_impl_applied_c1 s r = some (s.filter fun x => !aff r x.Key) := delF_ok _ s (by omega) (f := fun x => p_impl_applied_c1 x r) (p := fun x => aff r x.Key) fun x _ => by
    show p_impl_applied_c1 x r = _
    unfold p_impl_applied_c1
    rw [pl_iAff, callK_some]
  unfold p_impl_applied upd
  rw [grd_pos (appOk_of _ _ (by omega)), hd, callK_some]
  by_cases hk : r.Kind = 1
  · rw [if_neg (fun h => h hk), if_pos hk]
    have hlf := List.length_filter_le (fun x : Pair => !aff r x.Key) s
    obtain ⟨i, b, e, h1, h2, h3⟩ := pl_find (h.srt.filter fun x => !aff r x.Key) (by omega) r.Key
    obtain ⟨c1, c2⟩ := filter_cut (fun p : Pair => @decide (kl p.Key r.Key) (Classical.propDecidable _)) h1 (fun j hj hji => by simpa using h2 j hj hji) (fun j hj hji => by simpa using h3 j hj hji)
    rw [e, callK_some]
    dsimp only
    rw [grd_pos ⟨by omega, by omega, by simp⟩, grd_pos (appOk_of _ _ (by simp only [List.length_cons, List.length_nil]; omega)), Int.toNat_natCast, c1, c2]
    simp
  · rw [if_pos hk, if_neg hk]
theorem pl_apply {s : List Pair} (h : State s) (hl : s.length ≤ 39) {r : Record} (hr : okRec r = true) : p_impl_ApplyRecord s r = some (upd s r, 0) := by
  unfold p_impl_ApplyRecord
  rw [pl_pairs h (by omega), callK_some, if_pos rfl, pl_iRec, callK_some, if_pos hr, pl_applied h hl, callK_some]
/-! ### What is visible, as a state -/
theorem visOf_mem {g : ByteArray → Option ByteArray} {ks : List ByteArray} {p : Pair} : p ∈ visOf g ks ↔ p.Key ∈ ks ∧ g p.Key = some p.Value := by
  unfold visOf
  simp only [List.mem_filterMap, Option.map_eq_some_iff]
  constructor
  · rintro ⟨k, h1, v, h2, rfl⟩; exact ⟨h1, h2⟩
  · rintro ⟨h1, h2⟩; exact ⟨p.Key, h1, p.Value, h2, rfl⟩
theorem visOf_sorted {g : ByteArray → Option ByteArray} : ∀ {ks : List ByteArray}, ks.Pairwise kl → (visOf g ks).Pairwise pl2
  | [], _ => by simp [visOf]
  | k :: ks, h => by
    rw [List.pairwise_cons] at h
    have ih := visOf_sorted (g := g) h.2
    unfold visOf at ih ⊢
    rw [List.filterMap_cons]
    split
    · exact ih
    · rename_i p hp
      simp only [Option.map_eq_some_iff] at hp
      obtain ⟨v, hv, rfl⟩ := hp
      refine List.pairwise_cons.mpr ⟨fun q hq => ?_, ih⟩
      exact h.1 _ (visOf_mem.mp hq).1
theorem pair_ext {l m : List Pair} (h1 : l.Pairwise pl2) (h2 : m.Pairwise pl2) (h : ∀ x, x ∈ l ↔ x ∈ m) : l = m := sorted_ext (r := pl2) (fun a b c => kl_tr _ _ _) (fun a => kl_irr _) h1 h2 h
/-- The value that is visible after all records up to a number. -/
theorem gv_new {l : List Record} (h : Run l) (hl : l.length ≤ 1000000) {s : Int} {k : ByteArray} {n : Record} (hn : New l k s n) : gv l s k = getV n := by
  unfold gv
  rw [New.uniq h (nw_ok h hl k s).2 hn]
theorem gv_none {l : List Record} (h : Run l) (hl : l.length ≤ 1000000) {s : Int} (hs : ∀ x ∈ l, x.Seq ≠ s) (k : ByteArray) : gv l s k = gv l (s - 1) k := by
  obtain ⟨_, hn⟩ := nw_ok h hl k (s - 1)
  refine gv_new h hl ⟨hn.has.imp id fun ⟨h1, h2, h3⟩ => ⟨h1, h2, by omega⟩, fun x hx ha hs2 => hn.top x hx ha (by have := hs x hx; omega)⟩
theorem gv_step {l : List Record} (h : Run l) (hl : l.length ≤ 1000000) {r : Record} (hr : r ∈ l) (k : ByteArray) : gv l r.Seq k = if aff r k = true then (if r.Kind = 1 then some r.Value else none) else gv l (r.Seq - 1) k := by
  by_cases ha : aff r k = true
  · rw [if_pos ha]
    have e : gv l r.Seq k = getV r := gv_new h hl ⟨.inr ⟨hr, ha, Int.le_refl _⟩, fun x _ _ hs => hs⟩
    have := okRec_seq (h.ok r hr)
    rw [e]
    unfold getV
    by_cases hk : r.Kind = 1
    · rw [if_pos ⟨by omega, hk⟩, if_pos hk]
    · rw [if_neg (fun h => hk h.2), if_neg hk]
  · rw [if_neg ha]
    obtain ⟨_, hn⟩ := nw_ok h hl k (r.Seq - 1)
    refine gv_new h hl ⟨hn.has.imp id fun ⟨h1, h2, h3⟩ => ⟨h1, h2, by omega⟩, fun x hx ha2 hs2 => hn.top x hx ha2 ?_⟩
    by_cases e : x.Seq = r.Seq
    · have := h.inj x hx r hr e
      subst this; exact absurd ha2 ha
    · omega
theorem gv_put {l : List Record} (h : Run l) (hl : l.length ≤ 1000000) {s : Int} {k v : ByteArray} (hg : gv l s k = some v) : ∃ x ∈ l, x.Key = k ∧ x.Kind = 1 ∧ x.Value = v := by
  obtain ⟨_, hn⟩ := nw_ok h hl k s
  unfold gv getV at hg
  split at hg
  · rename_i hc
    rcases hn.has with e | ⟨h1, h2, _⟩
    · rw [e] at hc; simp [zR] at hc
    · exact ⟨_, h1, aff_key (by omega) h2, hc.2, Option.some.inj hg⟩
  · simp at hg
theorem vis_state {l : List Record} (h : Run l) (hl : l.length ≤ 1000000) (s : Int) : State (visOf (gv l s) (keysOf l)) := by
  refine ⟨fun p hp => ?_, visOf_sorted (keysOf_sorted h)⟩
  obtain ⟨h1, h2⟩ := visOf_mem.mp hp
  obtain ⟨x, hx, e1, e2, e3⟩ := gv_put h hl h2
  have ho := h.ok x hx
  rw [← e1, ← e3]
  refine ⟨okRec_key ho, ?_⟩
  unfold okRec at ho
  rw [e2] at ho
  simp at ho
  omega
theorem upd_sorted {s : List Pair} (h : s.Pairwise pl2) (r : Record) : (upd s r).Pairwise pl2 := by
  unfold upd
  dsimp only
  have ht := h.filter fun p => !aff r p.Key
  by_cases hk : r.Kind = 1
  · rw [if_pos hk]
    refine List.pairwise_append.mpr ⟨ht.filter _, List.pairwise_cons.mpr ⟨fun q hq => ?_, ht.filter _⟩, fun p hp q hq => ?_⟩
    · obtain ⟨q1, q2⟩ := List.mem_filter.mp hq
      obtain ⟨_, q3⟩ := List.mem_filter.mp q1
      have q4 : ¬ kl q.Key r.Key := by simpa using q2
      refine Classical.byContradiction fun hc => ?_
      have e := kl_tri _ _ hc q4
      dsimp only at e
      have : aff r q.Key = true := by
        unfold aff
        rw [if_neg (by omega), str_eq, decide_eq_true_eq]
        exact e
      rw [this] at q3
      simp at q3
    · obtain ⟨p1, p2⟩ := List.mem_filter.mp hp
      have p3 : kl p.Key r.Key := by simpa using p2
      rcases List.mem_cons.mp hq with rfl | hq
      · exact p3
      · obtain ⟨q1, q2⟩ := List.mem_filter.mp hq
        have q4 : ¬ kl q.Key r.Key := by simpa using q2
        refine Classical.byContradiction fun hc => ?_
        by_cases e : kl q.Key p.Key
        · exact q4 (kl_tr _ _ _ e p3)
        · have := kl_tri _ _ hc e
          rw [this] at p3
          exact q4 p3
  · rw [if_neg hk]; exact ht
theorem upd_mem {s : List Pair} {r : Record} {p : Pair} : p ∈ upd s r ↔ (p ∈ s ∧ aff r p.Key = false) ∨ (r.Kind = 1 ∧ p = ⟨r.Key, r.Value⟩) := by
  unfold upd
  dsimp only
  by_cases hk : r.Kind = 1
  · rw [if_pos hk]
    simp only [List.mem_append, List.mem_cons, List.mem_filter]
    by_cases hd : kl p.Key r.Key
    · simp [hd, hk]
    · simp [hd, hk, or_comm]
  · rw [if_neg hk]
    simp [List.mem_filter, hk]
theorem vis_upd {l : List Record} (h : Run l) (hl : l.length ≤ 1000000) {r : Record} (hr : r ∈ l) : upd (visOf (gv l (r.Seq - 1)) (keysOf l)) r = visOf (gv l r.Seq) (keysOf l) := by
  refine pair_ext (upd_sorted (visOf_sorted (keysOf_sorted h)) r) (visOf_sorted (keysOf_sorted h)) fun p => ?_
  rw [upd_mem, visOf_mem, visOf_mem, gv_step h hl hr]
  have hself : r.Kind = 1 → aff r r.Key = true := fun hk => by unfold aff; rw [if_neg (by omega), str_eq, decide_eq_true_eq]
  by_cases ha : aff r p.Key = true
  · rw [if_pos ha]
    by_cases hk : r.Kind = 1
    · rw [if_pos hk]
      have ek := aff_key (by omega) ha
      constructor
      · rintro (⟨_, h2⟩ | ⟨_, rfl⟩)
        · rw [ha] at h2; simp at h2
        · exact ⟨(keysOf_mem h).mpr ⟨r, hr, rfl⟩, rfl⟩
      · rintro ⟨_, h2⟩
        refine .inr ⟨hk, ?_⟩
        have := Option.some.inj h2
        cases p
        dsimp only at *
        subst ek; subst this; rfl
    · rw [if_neg hk]
      simp [ha, hk]
  · rw [if_neg ha]
    have ha' : aff r p.Key = false := by simpa using ha
    constructor
    · rintro (⟨h1, _⟩ | ⟨hk, rfl⟩)
      · exact h1
      · exact absurd (hself hk) ha
    · exact fun h => .inl ⟨h, ha'⟩
/-! ### The program's own look -/
theorem pl_iLook {l : List Record} (hl : l.length ≤ 1000000) (k : ByteArray) (s : Int) : p_impl_look l k s = p_spec_l17Newest l k s := by
  unfold p_spec_l17Newest p_impl_look
  rw [grd_pos (by omega), grd_pos (by omega)]
  unfold forK
  refine forGo_congr l 0 _ fun x hx i v nx => ?_
  rw [pl_sAff, callK_some]
  by_cases h1 : x.Seq ≤ s
  · by_cases h2 : x.Seq > v.Seq
    · rw [if_pos h1, if_pos h2, if_pos h1, if_pos h2, pl_iAff, callK_some]
    · rw [if_pos h1, if_neg h2, if_pos h1, if_neg h2, ite_self]
  · rw [if_neg h1, if_neg h1, ite_self]
theorem pl_iVisible {l : List Record} (h : Run l) (hl : l.length ≤ 1000000) (k : ByteArray) (s : Int) : ∃ v b, p_impl_visible l k s = some (v, b) ∧ (match gv l s k with
    | some x => v = x ∧ b = true
    | none => b = false) := by
  obtain ⟨e, hn⟩ := nw_ok h hl k s
  unfold p_impl_visible
  rw [pl_iLook hl, e, callK_some]
  dsimp only
  unfold gv getV
  generalize nw l k s = n
  by_cases h1 : n.Seq > 0
  · rw [if_pos (by simpa using h1)]
    by_cases h2 : n.Kind = 1
    · rw [if_pos ⟨h1, h2⟩]
      exact ⟨_, _, rfl, rfl, by simpa using h2⟩
    · rw [if_neg (fun h => h2 h.2)]
      exact ⟨_, _, rfl, by simpa using h2⟩
  · rw [if_neg (by simpa using h1), if_neg (fun h => h1 h.1)]
    exact ⟨_, _, rfl, rfl⟩
def pts (l : List Record) : List Record := l.filter fun r => !(r.Kind == 3)
theorem pl_parted {l : List Record} (hl : l.length ≤ 1000000) : ∃ q, p_impl_parted l = some (pts l, q) := by
  have d1 : p_slices_DeleteFunc_impl_isRange l = some (l.filter fun r => !(r.Kind == 3)) := delF_ok _ l (by omega) (f := fun x => p_impl_isRange x) (p := fun r => r.Kind == 3) fun x _ => rfl
  have d2 : p_slices_DeleteFunc_impl_parted_c1 l = some (l.filter fun r => !(!(r.Kind == 3))) := delF_ok _ l (by omega) (f := fun x => p_impl_parted_c1 x) (p := fun r => !(r.Kind == 3)) fun x _ => rfl
  unfold p_impl_parted
  rw [grd_pos (appOk_of _ _ (by omega)), d1, callK_some, grd_pos (appOk_of _ _ (by omega)), d2, callK_some]
  exact ⟨_, rfl⟩
theorem keysG_cpt : ∀ (l : List Record) (last : ByteArray), keysG last l = cptG last (l.map (·.Key))
  | [], _ => rfl
  | x :: l, last => by
    rw [keysG, List.map_cons, cptG]
    by_cases h : x.Key = last
    · rw [if_pos (by rw [str_eq]; simpa using h), if_pos h, keysG_cpt l last]
    · rw [if_neg (by rw [str_eq]; simpa using h), if_neg h, keysG_cpt l x.Key]
theorem keys_cpt {l : List Record} (h : Run l) : keysOf l = cpt (l.map (·.Key)) := by
  cases l with
  | nil => rfl
  | cons x l =>
    unfold keysOf
    rw [keysG, if_neg (by rw [str_eq]; simpa using okKey_ne (okRec_key (h.ok x (by simp)))), List.map_cons, cpt, keysG_cpt]
theorem pl_keys {l : List Record} (h : Run l) (hl : l.length ≤ 100000) : p_impl_keysOf l = some (keysOf l) := by
  unfold p_impl_keysOf
  rw [grd_pos (by omega)]
  refine forK_rule (fun i (v : List ByteArray) => v = (l.take i).map (·.Key)) (fun i hi v hv nx hnx => ?_) (fun v hv => ?_) _ rfl
  · subst hv
    rw [grd_pos (appOk_of _ _ (by rw [List.length_map, List.length_take]; omega))]
    exact hnx _ (by rw [List.take_succ_eq_append_getElem hi, List.map_append]; rfl)
  · subst hv
    rw [List.take_length]
    have e0 : ∀ m : List ByteArray, p_slices_Compact m = cmpG (⟨#[]⟩ : ByteArray) (fun (x y : ByteArray) => x.toList == y.toList) m := fun m => by
      unfold p_slices_Compact cmpG
      rfl
    have e : p_slices_Compact (l.map (·.Key)) = some (cpt (l.map (·.Key))) := (e0 _).trans (cmpG_ok _ (fun x y => by rw [str_eq, decide_eq_true_eq]) _ (by rw [List.length_map]; omega))
    rw [e, callK_some, keys_cpt h]
/-- Within bounds. -/
noncomputable def inB (a b : ByteArray) (k : ByteArray) : Bool := !(Op.bytesLess k.toList a.toList) && (b.toList == (⟨#[]⟩ : ByteArray).toList || Op.bytesLess k.toList b.toList)
noncomputable def gB (l : List Record) (a b : ByteArray) (s : Int) (k : ByteArray) : Option ByteArray := if inB a b k = true then gv l s k else none
theorem visOf_cons (g : ByteArray → Option ByteArray) (k : ByteArray) (ks : List ByteArray) : visOf g (k :: ks) = match g k with
    | none => visOf g ks
    | some v => ⟨k, v⟩ :: visOf g ks := by
  unfold visOf
  rw [List.filterMap_cons]
  cases g k <;> rfl
theorem visOf_snoc (g : ByteArray → Option ByteArray) (k : ByteArray) (ks : List ByteArray) : visOf g (ks ++ [k]) = visOf g ks ++ (match g k with
    | none => []
    | some v => [⟨k, v⟩]) := by
  unfold visOf
  rw [List.filterMap_append]
  congr 1
  simp only [List.filterMap_cons, List.filterMap_nil]
  cases g k <;> rfl
theorem pl_scan {l : List Record} (h : Run l) (hl : l.length ≤ 100000) (a b : ByteArray) (s : Int) : p_impl_scanVisible l a b s = some (visOf (gB l a b s) (keysOf l)) := by
  obtain ⟨q, e1⟩ := pl_parted (l := l) (by omega)
  have hp : Run (pts l) := h.filter _
  have hpl : (pts l).length ≤ l.length := List.length_filter_le _ _
  have hkl : (keysOf (pts l)).length ≤ l.length := Nat.le_trans (keysG_len _ _) hpl
  have same : visOf (gB l a b s) (keysOf (pts l)) = visOf (gB l a b s) (keysOf l) := by
    refine vis_eq hp h fun k hk => ?_
    unfold gB at hk
    split at hk
    · cases hg : gv l s k with
      | none => exact absurd hg hk
      | some v =>
        obtain ⟨x, hx, e1, e2, e3⟩ := gv_put h (by omega) hg
        exact ⟨⟨x, List.mem_filter.mpr ⟨hx, by simp [e2]⟩, e1⟩, ⟨x, hx, e1⟩⟩
    · exact absurd rfl hk
  unfold p_impl_scanVisible
  rw [e1, callK_some]
  dsimp only
  rw [pl_keys hp (by omega), callK_some, grd_pos (by omega), ← same]
  generalize keysOf (pts l) = ks at hkl
  refine forK_rule (fun i (v : List Pair) => v = visOf (gB l a b s) (ks.take i)) (fun i hi v hv nx hnx => ?_) (fun v hv => by rw [hv, List.take_length]) _ rfl
  subst hv
  have hvl : (visOf (gB l a b s) (ks.take i)).length ≤ i := Nat.le_trans (visOf_len _ _) (by rw [List.length_take]; omega)
  have hs : visOf (gB l a b s) (ks.take (i + 1)) = visOf (gB l a b s) (ks.take i) ++ (match gB l a b s ks[i] with
    | none => []
    | some v => [⟨ks[i], v⟩]) := by rw [List.take_succ_eq_append_getElem hi, visOf_snoc]
  obtain ⟨v, c, e2, e3⟩ := pl_iVisible h (by omega) ks[i] s
  have hout : inB a b ks[i] = false → visOf (gB l a b s) (ks.take (i + 1)) = visOf (gB l a b s) (ks.take i) := by
    intro hin
    rw [hs]
    have : gB l a b s ks[i] = none := by unfold gB; rw [if_neg (by rw [hin]; simp)]
    rw [this]
    simp
  have take : inB a b ks[i] = true → (callK (p_impl_visible l ks[i] s) fun y20 =>
      if y20.2 = true then
        grd (appOk ((visOf (gB l a b s) (ks.take i)).length + 1) 32 = true) <|
        nx (visOf (gB l a b s) (ks.take i) ++ ([(⟨ks[i], y20.1⟩ : Pair)] : List Pair))
      else
        nx (visOf (gB l a b s) (ks.take i))) = nx (visOf (gB l a b s) (ks.take (i + 1))) := by
    intro hin
    rw [e2, callK_some, hs]
    have : gB l a b s ks[i] = gv l s ks[i] := by unfold gB; rw [if_pos hin]
    rw [this]
    cases hg : gv l s ks[i] with
    | none =>
      rw [hg] at e3
      dsimp only at e3 ⊢
      subst e3
      rw [if_neg (by decide), List.append_nil]
    | some x =>
      rw [hg] at e3
      dsimp only at e3 ⊢
      obtain ⟨rfl, rfl⟩ := e3
      rw [if_pos rfl, grd_pos (appOk_of _ _ (by omega))]
  by_cases h1 : Op.bytesLess ks[i].toList a.toList = true
  · rw [if_pos h1]
    exact hnx _ (hout (by unfold inB; rw [h1]; rfl)).symm
  · rw [if_neg h1]
    have h1' : Op.bytesLess ks[i].toList a.toList = false := by simpa using h1
    by_cases h2 : (b.toList == (⟨#[]⟩ : ByteArray).toList) = true
    · rw [if_pos h2, take (by unfold inB; rw [h1', h2]; rfl)]
      exact hnx _ rfl
    · rw [if_neg h2]
      have h2' : (b.toList == (⟨#[]⟩ : ByteArray).toList) = false := by simpa using h2
      by_cases h3 : Op.bytesLess ks[i].toList b.toList = true
      · rw [if_pos h3, take (by unfold inB; rw [h1', h2', h3]; rfl)]
        exact hnx _ rfl
      · rw [if_neg h3]
        have h3' : Op.bytesLess ks[i].toList b.toList = false := by simpa using h3
        exact hnx _ (hout (by unfold inB; rw [h1', h2', h3']; rfl)).symm
theorem pl_ScanV {l : List Record} (h : Run l) (hl : l.length ≤ 100000) (a b : ByteArray) (hb : p_impl_boundsOk a b = some true) (s : Int) : p_impl_ScanVisible l a b s = some (visOf (gB l a b s) (keysOf l)) := by
  unfold p_impl_ScanVisible
  rw [pl_iRun h (by omega), callK_some, if_pos rfl, hb, callK_some, if_pos rfl, pl_scan h hl, callK_some]
theorem gB_all (l : List Record) (s : Int) : gB l ⟨#[]⟩ ⟨#[]⟩ s = gv l s := by
  funext k
  unfold gB
  rw [if_pos]
  unfold inB
  have : Op.bytesLess k.toList (⟨#[]⟩ : ByteArray).toList = false := Bool.eq_false_iff.mpr (kl_empty k)
  rw [this]
  simp
theorem pl_iVisAt {l : List Record} (h : Run l) (hl : l.length ≤ 100000) (s : Int) : p_impl_VisibleAt l s = some (visOf (gv l s) (keysOf l)) := by
  unfold p_impl_VisibleAt
  rw [pl_ScanV h hl ⟨#[]⟩ ⟨#[]⟩ (by
    unfold p_impl_boundsOk
    rw [if_pos (by simp), if_pos (by simp)]) s, callK_some, gB_all]
theorem pl_iSameP (l : List Pair) (h : l.length ≤ 1000000) : p_impl_SamePairs l l = some true := by
  unfold p_impl_SamePairs p_slices_Equal
  rw [if_neg (by simp), grd_pos (by omega), forK_rule (res := some true) (fun _ _ => True) (fun i hi s _ nx hnx => by rw [getK_lt hi, if_pos (by simp)]; exact hnx () trivial) (fun s _ => rfl) () trivial, callK_some]
theorem visOf_filter (l : List Record) (a b : ByteArray) (s : Int) (ks : List ByteArray) : visOf (gB l a b s) ks = (visOf (gv l s) ks).filter fun p => inB a b p.Key := by
  induction ks with
  | nil => rfl
  | cons k ks ih =>
    rw [visOf_cons, visOf_cons, ih]
    cases hg : gv l s k with
    | none =>
      have : gB l a b s k = none := by unfold gB; rw [hg]; simp
      rw [this]
    | some v =>
      by_cases hi : inB a b k = true
      · have : gB l a b s k = some v := by unfold gB; rw [if_pos hi, hg]
        rw [this]
        dsimp only
        rw [List.filter_cons_of_pos (by exact hi)]
      · have : gB l a b s k = none := by unfold gB; rw [if_neg hi]
        rw [this]
        dsimp only
        rw [List.filter_cons_of_neg (by exact hi)]
theorem pl_iGet {l : List Record} (h : Run l) (hl : l.length ≤ 1000000) {k v : ByteArray} {s : Int} (hk : okKey k = true) (hg : gv l s k = some v) : p_impl_GetVisible l k s = some (v, true) := by
  obtain ⟨w, b, e2, e3⟩ := pl_iVisible h hl k s
  rw [hg] at e3
  dsimp only at e3
  obtain ⟨rfl, rfl⟩ := e3
  unfold p_impl_GetVisible
  rw [pl_iRun h hl, callK_some, if_pos rfl, pl_iKey, callK_some, if_pos hk, e2, callK_some, if_pos rfl]
theorem pair_eq (x y : Pair) : ((x.Key.toList == y.Key.toList) && ((x.Value.toList == y.Value.toList) && true)) = @decide (x = y) (Classical.propDecidable _) := by
  rw [Bool.eq_iff_iff, @decide_eq_true_iff _ (Classical.propDecidable _), Bool.and_true, Bool.and_eq_true, str_eq, str_eq, decide_eq_true_eq, decide_eq_true_eq]
  cases x; cases y
  simp
theorem pl_law (code : List Int) (hk : okL u8r code) : p_laws_FnVisible code = some true := by
  unfold p_laws_FnVisible
  by_cases hc : (code.length : Int) > 400
  · rw [if_pos hc]
  rw [if_neg hc]
  obtain ⟨l, e1, hr, hl⟩ := a8Run_ok (code := code) (n := 12) (by omega) hk.2 (by omega)
  obtain ⟨q, e2, q0, q1, q2⟩ := a8At_in code 17 30 hk.2 (by omega) (by omega)
  have hq := q1 (by omega)
  rw [e1, callK_some, e2, callK_some]
  have hvl : ∀ s, (visOf (gv l s) (keysOf l)).length ≤ 12 := fun s => by
    have h1 := visOf_len (gv l s) (keysOf l)
    have h2 := keysG_len l ⟨#[]⟩
    unfold keysOf at h1 ⊢
    omega
  have h0 : visOf (gv l 0) (keysOf l) = [] := by
    refine List.eq_nil_iff_forall_not_mem.mpr fun p hp => ?_
    obtain ⟨_, h2⟩ := visOf_mem.mp hp
    obtain ⟨_, hn⟩ := nw_ok hr (by omega) p.Key 0
    unfold gv getV at h2
    split at h2
    · rename_i hcc
      rcases hn.has with e | ⟨h3, _, h4⟩
      · rw [e] at hcc; simp [zR] at hcc
      · omega
    · simp at h2
  refine iterK_rule (fun d (s : List Pair × Int) => ∃ n : Nat, s.2 = (n : Int) + 1 ∧ (n : Int) ≤ q ∧ d = q.toNat - n ∧ s.1 = visOf (gv l n) (keysOf l)) ?_ q.toNat _ (by unfold NN; omega) ⟨0, rfl, q0, by omega, h0.symm⟩
  rintro d ⟨v4, v5⟩ ⟨n, g1, g2, g3, g4⟩ nx hnx
  dsimp only at g1 g4 hnx ⊢
  subst g1
  subst g4
  by_cases hlt : (n : Int) + 1 ≤ q
  · rw [if_pos hlt, grd_pos (by omega)]
    have hnext := hnx (q.toNat - (n + 1)) (visOf (gv l ((n : Int) + 1)) (keysOf l), (n : Int) + 1 + 1) (by omega) ⟨n + 1, by push_cast; rfl, by omega, rfl, by push_cast; rfl⟩
    refine forK_rule (fun i (v : List Pair) => if ∃ x ∈ l.take i, x.Seq = (n : Int) + 1 then v = visOf (gv l ((n : Int) + 1)) (keysOf l) else v = visOf (gv l n) (keysOf l)) (fun i hi v hv nx2 hnx2 => ?_) (fun v hv => ?_) _ (by simp)
    · have hmem : (∃ x ∈ l.take (i + 1), x.Seq = (n : Int) + 1) ↔ (∃ x ∈ l.take i, x.Seq = (n : Int) + 1) ∨ l[i].Seq = (n : Int) + 1 := by
        rw [List.take_succ_eq_append_getElem hi]
        simp only [List.mem_append, List.mem_singleton]
        constructor
        · rintro ⟨x, h1 | rfl, h2⟩
          · exact .inl ⟨x, h1, h2⟩
          · exact .inr h2
        · rintro (⟨x, h1, h2⟩ | h2)
          · exact ⟨x, .inl h1, h2⟩
          · exact ⟨_, .inr rfl, h2⟩
      by_cases he : l[i].Seq = (n : Int) + 1
      · have hno : ¬ ∃ x ∈ l.take i, x.Seq = (n : Int) + 1 := by
          rintro ⟨x, hx, hx2⟩
          obtain ⟨j, hj, rfl⟩ := List.mem_take_iff_getElem.mp hx
          exact run_seq hr (i := j) (j := i) (by omega) hi (by rw [hx2, he])
        rw [if_neg hno] at hv
        subst hv
        have hu := vis_upd hr (by omega) (List.getElem_mem hi)
        rw [he, show (n : Int) + 1 - 1 = n by omega] at hu
        rw [if_pos he, pl_apply (vis_state hr (by omega) _) (by have := hvl n; omega) (hr.ok _ (List.getElem_mem hi)), callK_some]
        dsimp only
        rw [if_neg (by simp), hu]
        exact hnx2 _ (by rw [if_pos (hmem.mpr (.inr he))])
      · rw [if_neg he]
        refine hnx2 _ ?_
        by_cases hb : ∃ x ∈ l.take i, x.Seq = (n : Int) + 1
        · rw [if_pos hb] at hv
          rw [if_pos (hmem.mpr (.inl hb))]; exact hv
        · rw [if_neg hb] at hv
          rw [if_neg (fun h => (hmem.mp h).elim hb he)]; exact hv
    · rw [List.take_length] at hv
      rw [wrap_sm _ (by omega) (by omega)]
      have : v = visOf (gv l ((n : Int) + 1)) (keysOf l) := by
        by_cases hb : ∃ x ∈ l, x.Seq = (n : Int) + 1
        · rw [if_pos hb] at hv; exact hv
        · rw [if_neg hb] at hv
          rw [hv]
          congr 1
          funext k
          have := gv_none hr (by omega) (s := (n : Int) + 1) (fun x hx hx2 => hb ⟨x, hx, hx2⟩) k
          rw [this, show (n : Int) + 1 - 1 = n by omega]
      rw [this]
      exact hnext
  · have hqn : q = n := by omega
    subst hqn
    rw [if_neg hlt, pl_iVisAt hr (by omega), callK_some, pl_iSameP _ (by have := hvl n; omega), callK_some, if_pos rfl, pl_visAt hr (by omega), callK_some, pl_sameP _ (by have := hvl n; omega), callK_some, if_pos rfl,
      pl_ScanV hr (by omega) ⟨#[98]⟩ ⟨#[100]⟩ (by decide +kernel) n, callK_some, grd_pos (by have := hvl n; omega), visOf_filter]
    have hst : ∀ p ∈ visOf (gv l n) (keysOf l), okKey p.Key = true ∧ gv l n p.Key = some p.Value := fun p hp => ⟨((vis_state hr (by omega) n).ok p hp).1, (visOf_mem.mp hp).2⟩
    have hS := hvl n
    generalize visOf (gv l n) (keysOf l) = S at hst hS
    refine forK_rule (fun i (v : Int) => v = ((S.take i).filter fun p => inB ⟨#[98]⟩ ⟨#[100]⟩ p.Key).length) (fun i hi v hv nx2 hnx2 => ?_) (fun v hv => ?_) _ (by simp)
    · subst hv
      obtain ⟨k1, k2⟩ := hst _ (List.getElem_mem hi)
      rw [pl_iGet hr (by omega) k1 k2, callK_some]
      dsimp only
      rw [if_pos rfl, if_pos (by rw [str_eq]; simp)]
      have hw : (S.take (i + 1)).filter (fun p => inB ⟨#[98]⟩ ⟨#[100]⟩ p.Key) = (S.take i).filter (fun p => inB ⟨#[98]⟩ ⟨#[100]⟩ p.Key) ++ (if inB ⟨#[98]⟩ ⟨#[100]⟩ S[i].Key = true then [S[i]] else []) := by
        rw [List.take_succ_eq_append_getElem hi, List.filter_append]
        congr 1
        by_cases hb : inB ⟨#[98]⟩ ⟨#[100]⟩ S[i].Key = true
        · rw [if_pos hb]; simp [hb]
        · rw [if_neg hb]; simp [hb]
      have hS2 : S.filter (fun p => inB ⟨#[98]⟩ ⟨#[100]⟩ p.Key) = (S.take i).filter (fun p => inB ⟨#[98]⟩ ⟨#[100]⟩ p.Key) ++ (S.drop i).filter (fun p => inB ⟨#[98]⟩ ⟨#[100]⟩ p.Key) := by
        rw [← List.filter_append, List.take_append_drop]
      by_cases b1 : Op.bytesLess S[i].Key.toList (⟨#[98]⟩ : ByteArray).toList = true
      · rw [if_pos b1]
        refine hnx2 _ ?_
        rw [hw, if_neg (by unfold inB; rw [b1]; simp), List.append_nil]
      · rw [if_neg b1]
        have b1' : Op.bytesLess S[i].Key.toList (⟨#[98]⟩ : ByteArray).toList = false := by simpa using b1
        by_cases b2 : Op.bytesLess S[i].Key.toList (⟨#[100]⟩ : ByteArray).toList = true
        · have hin : inB ⟨#[98]⟩ ⟨#[100]⟩ S[i].Key = true := by unfold inB; rw [b1', b2]; simp
          have hd : (S.drop i).filter (fun p => inB ⟨#[98]⟩ ⟨#[100]⟩ p.Key) = S[i] :: (S.drop (i + 1)).filter (fun p => inB ⟨#[98]⟩ ⟨#[100]⟩ p.Key) := by
            rw [List.drop_eq_getElem_cons hi, List.filter_cons_of_pos (by exact hin)]
          have hlen : ((S.take i).filter (fun p => inB ⟨#[98]⟩ ⟨#[100]⟩ p.Key)).length < (S.filter (fun p => inB ⟨#[98]⟩ ⟨#[100]⟩ p.Key)).length := by
            rw [hS2, hd]; simp
          have hfl := List.length_filter_le (fun p : Pair => inB ⟨#[98]⟩ ⟨#[100]⟩ p.Key) S
          rw [if_pos b2, if_neg (by omega), getK_lt hlen]
          have hat : (S.filter (fun p => inB ⟨#[98]⟩ ⟨#[100]⟩ p.Key))[((S.take i).filter (fun p => inB ⟨#[98]⟩ ⟨#[100]⟩ p.Key)).length] = S[i] := by
            have : (S.filter (fun p => inB ⟨#[98]⟩ ⟨#[100]⟩ p.Key))[((S.take i).filter (fun p => inB ⟨#[98]⟩ ⟨#[100]⟩ p.Key)).length]? = some S[i] := by
              rw [hS2, List.getElem?_append_right (Nat.le_refl _), Nat.sub_self, hd]; rfl
            rw [List.getElem?_eq_getElem hlen] at this
            exact Option.some.inj this
          rw [hat, pair_eq, if_pos (by simp), wrap_sm _ (by omega) (by omega)]
          refine hnx2 _ ?_
          rw [hw, if_pos hin]
          simp
        · rw [if_neg b2]
          refine hnx2 _ ?_
          have b2' : Op.bytesLess S[i].Key.toList (⟨#[100]⟩ : ByteArray).toList = false := by simpa using b2
          rw [hw, if_neg (by unfold inB; rw [b1', b2']; decide +kernel), List.append_nil]
    · subst hv
      rw [List.take_length]
      simp
theorem f_law (code : List Int) (hk : okL u8r code) : callL E 3 [.d (.arr (code.map rU))] [] = some (BO true, []) := L_laws_FnVisible code (pl_law code hk)

end Go.Proofs.Ytjphojijobhdiaa.T01

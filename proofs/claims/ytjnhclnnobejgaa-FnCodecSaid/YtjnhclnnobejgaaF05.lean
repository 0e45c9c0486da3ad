/- FnCodec: what its functions come to, and the row; conditions: none. -/
import Derived.Test.YtjnhclnnobejgaaT05
import Derived.Test.YtjnhclnnobejgaaEz
import Derived.Test.YtjnhclnnobejgaaRows
import Derived.WalkKit
import Derived.ProofKit
import Derived.OpenShut
import Derived.ShutString
import Derived.ChangeOld
import Derived.Below
import Derived.SizedLaws
namespace Go.Proofs.Ytjnhclnnobejgaa.T05
open Go.Proofs.YtjnhclnnobejgaaE
set_option maxRecDepth 100000
set_option linter.unusedVariables false
set_option linter.unusedSimpArgs false

noncomputable def p_impl_within (a_0 : Int) (a_1 : Int) (a_2 : Int) : Option Bool :=
  if a_0 ≥ a_1 then
    some (decide (a_0 ≤ a_2))
  else
    some false

set_option maxHeartbeats 4000000 in
theorem L_impl_within (a_0 : Int) (a_1 : Int) (a_2 : Int) {r : Bool} (h : p_impl_within a_0 a_1 a_2 = some r) : callL E 157 [IN a_0, IN a_1, IN a_2] ([] : Fo) = some (BO r, ([] : Fo)) := by
  unfold p_impl_within at h
  refine callW (fu := Try.f157) rfl rfl rfl NN ?_
  intro lp cl hlp hcl
  conv => lhs; whnf
  cases hb1 : (decide (a_0 ≥ a_1))
  · replace h := ifF h (decF hb1); conv => lhs; whnf
    try (rw [hb1]; conv => lhs; whnf)
    try (rw [hb1]; conv => lhs; whnf)
    try (rw [hb1]; conv => lhs; whnf)
    obtain rfl := Option.some.inj h; show _ = _; kernel_rfl

  · replace h := ifT h (decT hb1); conv => lhs; whnf
    try (rw [hb1]; conv => lhs; whnf)
    try (rw [hb1]; conv => lhs; whnf)
    try (rw [hb1]; conv => lhs; whnf)
    obtain rfl := Option.some.inj h; show _ = _; kernel_rfl

theorem pl_within (n lo hi : Int) : p_impl_within n lo hi = some (inR n lo hi) := by
  unfold p_impl_within inR
  split
  · rename_i h; simp [h]
  · rename_i h; simp [h]


structure Sl00Src where
  Code : List Int
  At : Int
  Seed : Int
def rSl00Src (x : Sl00Src) : List D := [.arr (x.Code.map rU), dI x.At, .lit (.int .u64 x.Seed)]
theorem rSl00Src_len : ∀ x, (rSl00Src x).length = 3 := fun _ => rfl

noncomputable def p_spec_l00From (a_0 : List Int) : Option Sl00Src :=
  some (⟨a_0, 0, 0⟩ : Sl00Src)

set_option maxHeartbeats 4000000 in
theorem L_spec_l00From (a_0 : List Int) {r : Sl00Src} (h : p_spec_l00From a_0 = some r) : callL E 129 [.d (.arr (a_0.map rU))] ([] : Fo) = some (.bp 0 0, ([some (.box [.d (.arr (r.Code.map rU)), IN r.At, .d (.lit (.int .u64 r.Seed))])] : Fo)) := by
  unfold p_spec_l00From at h
  refine callW (fu := Try.f129) rfl rfl rfl NN ?_
  intro lp cl hlp hcl
  conv => lhs; whnf
  obtain rfl := Option.some.inj h; show _ = _; kernel_rfl


noncomputable def p_spec_l00Src_next (a_0 : Sl00Src) : Option (Int × Sl00Src) :=
  if a_0.At < (a_0.Code.length : Int) then
    getK a_0.Code a_0.At fun x2 =>
    if (IntKind.i64.wrap (a_0.At + 1)) ≤ (a_0.Code.length : Int) then
      some ((IntKind.i64.wrap x2), (⟨a_0.Code, (IntKind.i64.wrap (a_0.At + 1)), (IntKind.u64.wrap ((IntKind.u64.wrap ((IntKind.u64.wrap (a_0.Seed * 6364136223846793005)) + (IntKind.u64.wrap (IntKind.i64.wrap x2)))) + 1442695040888963407))⟩ : Sl00Src))
    else
      some ((IntKind.i64.wrap (andK .u64 (Int.fdiv (IntKind.u64.wrap ((IntKind.u64.wrap ((IntKind.u64.wrap (a_0.Seed * 6364136223846793005)) + (IntKind.u64.wrap (IntKind.i64.wrap x2)))) + 1442695040888963407)) (2 ^ (min (Int.toNat 40) IntKind.u64.bits))) 255)), (⟨a_0.Code, (IntKind.i64.wrap (a_0.At + 1)), (IntKind.u64.wrap ((IntKind.u64.wrap ((IntKind.u64.wrap (a_0.Seed * 6364136223846793005)) + (IntKind.u64.wrap (IntKind.i64.wrap x2)))) + 1442695040888963407))⟩ : Sl00Src))
  else
    if (IntKind.i64.wrap (a_0.At + 1)) ≤ (a_0.Code.length : Int) then
      some (0, (⟨a_0.Code, (IntKind.i64.wrap (a_0.At + 1)), (IntKind.u64.wrap ((IntKind.u64.wrap ((IntKind.u64.wrap (a_0.Seed * 6364136223846793005)) + (IntKind.u64.wrap 0))) + 1442695040888963407))⟩ : Sl00Src))
    else
      some ((IntKind.i64.wrap (andK .u64 (Int.fdiv (IntKind.u64.wrap ((IntKind.u64.wrap ((IntKind.u64.wrap (a_0.Seed * 6364136223846793005)) + (IntKind.u64.wrap 0))) + 1442695040888963407)) (2 ^ (min (Int.toNat 40) IntKind.u64.bits))) 255)), (⟨a_0.Code, (IntKind.i64.wrap (a_0.At + 1)), (IntKind.u64.wrap ((IntKind.u64.wrap ((IntKind.u64.wrap (a_0.Seed * 6364136223846793005)) + (IntKind.u64.wrap 0))) + 1442695040888963407))⟩ : Sl00Src))

set_option maxHeartbeats 4000000 in
theorem L_spec_l00Src_next (a_0 : Sl00Src) {r : (Int × Sl00Src)} (h : p_spec_l00Src_next a_0 = some r) : callL E 223 [.bp 0 0] ([some (.box [.d (.arr (a_0.Code.map rU)), IN a_0.At, .d (.lit (.int .u64 a_0.Seed))])] : Fo) = some (IN r.1, ([some (.box [.d (.arr (r.2.Code.map rU)), IN r.2.At, .d (.lit (.int .u64 r.2.Seed))])] : Fo)) := by
  unfold p_spec_l00Src_next at h
  refine callW (fu := Try.f223) rfl rfl rfl NN ?_
  intro lp cl hlp hcl
  conv => lhs; whnf
  try rw [len_of (l := a_0.Code) (r := rU)]
  cases hb1 : (decide (a_0.At < (a_0.Code.length : Int)))
  · replace h := ifF h (decF hb1); conv => lhs; whnf
    try rw [len_of (l := a_0.Code) (r := rU)]
    cases hb4 : (decide ((IntKind.i64.wrap (a_0.At + 1)) ≤ (a_0.Code.length : Int)))
    · replace h := ifF h (decF hb4); conv => lhs; whnf
      obtain rfl := Option.some.inj h; show _ = _; kernel_rfl

    · replace h := ifT h (decT hb4); conv => lhs; whnf
      obtain rfl := Option.some.inj h; show _ = _; kernel_rfl

  · replace h := ifT h (decT hb1); conv => lhs; whnf
    obtain ⟨x2, hq_x2, hx_x2', h⟩ := getK_inv h
    have hx_x2 := get_of (r := rU) hx_x2'
    try (rw [decide_eq_true hq_x2]; conv => lhs; whnf)
    rw [hx_x2]
    conv => lhs; whnf
    rw [hx_x2]
    conv => lhs; whnf
    try rw [len_of (l := a_0.Code) (r := rU)]
    cases hb3 : (decide ((IntKind.i64.wrap (a_0.At + 1)) ≤ (a_0.Code.length : Int)))
    · replace h := ifF h (decF hb3); conv => lhs; whnf
      obtain rfl := Option.some.inj h; show _ = _; kernel_rfl

    · replace h := ifT h (decT hb3); conv => lhs; whnf
      obtain rfl := Option.some.inj h; show _ = _; kernel_rfl


noncomputable def p_spec_l00Src_pick (a_0 : Int) (a_1 : Sl00Src) : Option (Int × Sl00Src) :=
  if a_0 ≤ 1 then
    some (0, a_1)
  else
    callK (p_spec_l00Src_next a_1) fun y2 =>
    if a_0 > 200 then
      callK (p_spec_l00Src_next y2.2) fun y4 =>
      grd (a_0 ≠ 0) <|
      some ((Int.tmod (IntKind.i64.wrap ((IntKind.i64.wrap (y2.1 * 256)) + y4.1)) a_0), y4.2)
    else
      grd (a_0 ≠ 0) <|
      some ((Int.tmod y2.1 a_0), y2.2)

set_option maxHeartbeats 4000000 in
theorem L_spec_l00Src_pick (a_0 : Int) (a_1 : Sl00Src) {r : (Int × Sl00Src)} (h : p_spec_l00Src_pick a_0 a_1 = some r) : callL E 137 [.bp 0 0, IN a_0] ([some (.box [.d (.arr (a_1.Code.map rU)), IN a_1.At, .d (.lit (.int .u64 a_1.Seed))])] : Fo) = some (IN r.1, ([some (.box [.d (.arr (r.2.Code.map rU)), IN r.2.At, .d (.lit (.int .u64 r.2.Seed))])] : Fo)) := by
  unfold p_spec_l00Src_pick at h
  refine callW (fu := Try.f137) rfl rfl rfl NN ?_
  intro lp cl hlp hcl
  conv => lhs; whnf
  cases hb1 : (decide (a_0 ≤ 1))
  · replace h := ifF h (decF hb1); conv => lhs; whnf
    obtain ⟨y2, h_y2, h⟩ := callK_inv h
    rw [cl_eq hcl (L_spec_l00Src_next a_1 h_y2)]
    rotate_left
    · show _ = _; kernel_rfl
    · show _ = _; kernel_rfl
    conv => lhs; whnf
    cases hb3 : (decide (a_0 > 200))
    · replace h := ifF h (decF hb3); conv => lhs; whnf
      obtain ⟨hg5, h⟩ := grd_inv h
      rw [rem_run _ _ _ _ hg5]
      conv => lhs; whnf
      obtain rfl := Option.some.inj h; show _ = _; kernel_rfl

    · replace h := ifT h (decT hb3); conv => lhs; whnf
      obtain ⟨y4, h_y4, h⟩ := callK_inv h
      rw [cl_eq hcl (L_spec_l00Src_next y2.2 h_y4)]
      rotate_left
      · show _ = _; kernel_rfl
      · show _ = _; kernel_rfl
      conv => lhs; whnf
      obtain ⟨hg6, h⟩ := grd_inv h
      rw [rem_run _ _ _ _ hg6]
      conv => lhs; whnf
      obtain rfl := Option.some.inj h; show _ = _; kernel_rfl

  · replace h := ifT h (decT hb1); conv => lhs; whnf
    obtain rfl := Option.some.inj h; show _ = _; kernel_rfl

/-- A source of choices from which as many may still be drawn. -/
structure SrcOk (b : Int) (s : Sl00Src) : Prop where
  code : ∀ x ∈ s.Code, 0 ≤ x ∧ x ≤ 255
  len : s.Code.length ≤ 1048576
  lo : 0 ≤ s.At
  hi : s.At + b ≤ 4611686018427387904
theorem SrcOk.le {b c : Int} {s : Sl00Src} (h : SrcOk b s) (hc : c ≤ b) : SrcOk c s := ⟨h.1, h.2, h.3, by have := h.4; omega⟩
theorem nxV_in (sd : Int) : 0 ≤ IntKind.i64.wrap (andK .u64 sd 255) ∧ IntKind.i64.wrap (andK .u64 sd 255) ≤ 255 := by
  unfold andK
  generalize BitVec.ofInt IntKind.u64.bits sd = a
  have h1 : (a &&& BitVec.ofInt IntKind.u64.bits 255).toNat ≤ 255 := by
    rw [BitVec.toNat_and]
    exact Nat.le_trans Nat.and_le_right (by decide)
  generalize (a &&& BitVec.ofInt IntKind.u64.bits 255).toNat = m at h1
  have e1 : IntKind.u64.wrap (m : Int) = m := by unfold IntKind.wrap; simp [IntKind.signed, IntKind.bits]; omega
  rw [e1, wrap_sm _ (by omega) (by omega)]
  omega
theorem next_ok {b : Int} {s : Sl00Src} (hb : 0 ≤ b) (h : SrcOk (b + 1) s) : ∃ v s', p_spec_l00Src_next s = some (v, s') ∧ (0 ≤ v ∧ v ≤ 255) ∧ SrcOk b s' := by
  obtain ⟨h1, h2, h3, h4⟩ := h
  have hw : IntKind.i64.wrap (s.At + 1) = s.At + 1 := wrap_sm _ (by omega) (by omega)
  unfold p_spec_l00Src_next
  rw [hw]
  split
  · rename_i hlt
    rw [getK_in h3 hlt]
    have hb := h1 _ (List.getElem_mem (show s.At.toNat < s.Code.length by omega))
    rw [if_pos (by omega)]
    exact ⟨_, _, rfl, by rw [wrap_sm _ (by omega) (by omega)]; exact hb, h1, h2, by show 0 ≤ s.At + 1; omega, by show s.At + 1 + b ≤ _; omega⟩
  · rename_i hlt
    rw [if_neg (by omega)]
    exact ⟨_, _, rfl, nxV_in _, h1, h2, by show 0 ≤ s.At + 1; omega, by show s.At + 1 + b ≤ _; omega⟩
theorem pick_ok {b : Int} {s : Sl00Src} (m : Int) (hb : 0 ≤ b) (h : SrcOk (b + 2) s) : ∃ r s', p_spec_l00Src_pick m s = some (r, s') ∧ (0 ≤ r ∧ (1 < m → r < m) ∧ (m ≤ 1 → r = 0)) ∧ SrcOk b s' := by
  unfold p_spec_l00Src_pick
  split
  · rename_i hm
    exact ⟨0, s, rfl, ⟨by omega, fun h => by omega, fun _ => rfl⟩, h.le (by omega)⟩
  · rename_i hm
    obtain ⟨v1, s1, e1, b1, o1⟩ := next_ok (b := b + 1) (by omega) (h.le (by omega))
    rw [e1, callK_some]
    split
    · obtain ⟨v2, s2, e2, b2, o2⟩ := next_ok hb o1
      rw [e2, callK_some, grd_pos (by omega)]
      have w1 : IntKind.i64.wrap (v1 * 256) = v1 * 256 := wrap_sm _ (by omega) (by omega)
      have w2 : IntKind.i64.wrap (v1 * 256 + v2) = v1 * 256 + v2 := wrap_sm _ (by omega) (by omega)
      refine ⟨_, _, rfl, ?_, o2⟩
      show 0 ≤ Int.tmod (IntKind.i64.wrap (IntKind.i64.wrap (v1 * 256) + v2)) m ∧ _
      rw [w1, w2]
      exact ⟨Int.tmod_nonneg _ (by omega), fun _ => Int.tmod_lt_of_pos _ (by omega), fun h3 => by omega⟩
    · rw [grd_pos (by omega)]
      exact ⟨_, _, rfl, ⟨Int.tmod_nonneg _ b1.1, fun _ => Int.tmod_lt_of_pos _ (by omega), fun h3 => by omega⟩, o1.le (by omega)⟩
theorem from_ok {code : List Int} (h : ∀ x ∈ code, 0 ≤ x ∧ x ≤ 255) (hl : code.length ≤ 1048576) : ∃ s, p_spec_l00From code = some s ∧ SrcOk 1099511627776 s :=
  ⟨_, rfl, h, hl, by show (0 : Int) ≤ 0; omega, by show (0 : Int) + 1099511627776 ≤ _; omega⟩

noncomputable def p_spec_l00Src_among (a_0 : List Int) (a_1 : Sl00Src) : Option (Int × Sl00Src) :=
  callK (p_spec_l00Src_pick (a_0.length : Int) a_1) fun y1 =>
  getK a_0 y1.1 fun x2 =>
  some (x2, y1.2)

set_option maxHeartbeats 4000000 in
theorem L_spec_l00Src_among (a_0 : List Int) (a_1 : Sl00Src) {r : (Int × Sl00Src)} (h : p_spec_l00Src_among a_0 a_1 = some r) : callL E 145 [.bp 0 0, .d (.arr (a_0.map rI))] ([some (.box [.d (.arr (a_1.Code.map rU)), IN a_1.At, .d (.lit (.int .u64 a_1.Seed))])] : Fo) = some (IN r.1, ([some (.box [.d (.arr (r.2.Code.map rU)), IN r.2.At, .d (.lit (.int .u64 r.2.Seed))])] : Fo)) := by
  unfold p_spec_l00Src_among at h
  refine callW (fu := Try.f145) rfl rfl rfl NN ?_
  intro lp cl hlp hcl
  conv => lhs; whnf
  try rw [len_of (l := a_0) (r := rI)]
  obtain ⟨y1, h_y1, h⟩ := callK_inv h
  rw [cl_eq hcl (L_spec_l00Src_pick (a_0.length : Int) a_1 h_y1)]
  rotate_left
  · show _ = _; kernel_rfl
  · show _ = _; kernel_rfl
  conv => lhs; whnf
  obtain ⟨x2, hq_x2, hx_x2', h⟩ := getK_inv h
  have hx_x2 := get_of (r := rI) hx_x2'
  try (rw [decide_eq_true hq_x2]; conv => lhs; whnf)
  rw [hx_x2]
  conv => lhs; whnf
  rw [hx_x2]
  conv => lhs; whnf
  obtain rfl := Option.some.inj h; show _ = _; kernel_rfl

theorem among_ok {b : Int} {s : Sl00Src} (l : List Int) (hl : 0 < l.length) (hb : 0 ≤ b) (h : SrcOk (b + 2) s) : ∃ r s', p_spec_l00Src_among l s = some (r, s') ∧ r ∈ l ∧ SrcOk b s' := by
  obtain ⟨r, s1, e1, ⟨b1, b2, b3⟩, o1⟩ := pick_ok (l.length : Int) hb h
  unfold p_spec_l00Src_among
  have hr : r < (l.length : Int) := by
    rcases Nat.lt_or_ge 1 l.length with h | h
    · exact b2 (by omega)
    · have := b3 (by omega); omega
  rw [e1, callK_some, getK_in b1 hr]
  exact ⟨_, _, rfl, List.getElem_mem _, o1⟩

noncomputable def p_spec_l00Src_one (a_0 : Int) (a_1 : Sl00Src) : Option (Bool × Sl00Src) :=
  callK (p_spec_l00Src_pick a_0 a_1) fun y1 =>
  some ((y1.1 == 0), y1.2)

set_option maxHeartbeats 4000000 in
theorem L_spec_l00Src_one (a_0 : Int) (a_1 : Sl00Src) {r : (Bool × Sl00Src)} (h : p_spec_l00Src_one a_0 a_1 = some r) : callL E 134 [.bp 0 0, IN a_0] ([some (.box [.d (.arr (a_1.Code.map rU)), IN a_1.At, .d (.lit (.int .u64 a_1.Seed))])] : Fo) = some (BO r.1, ([some (.box [.d (.arr (r.2.Code.map rU)), IN r.2.At, .d (.lit (.int .u64 r.2.Seed))])] : Fo)) := by
  unfold p_spec_l00Src_one at h
  refine callW (fu := Try.f134) rfl rfl rfl NN ?_
  intro lp cl hlp hcl
  conv => lhs; whnf
  obtain ⟨y1, h_y1, h⟩ := callK_inv h
  rw [cl_eq hcl (L_spec_l00Src_pick a_0 a_1 h_y1)]
  rotate_left
  · show _ = _; kernel_rfl
  · show _ = _; kernel_rfl
  conv => lhs; whnf
  obtain rfl := Option.some.inj h; show _ = _; kernel_rfl

theorem one_ok {b : Int} {s : Sl00Src} (m : Int) (hb : 0 ≤ b) (h : SrcOk (b + 2) s) : ∃ r s', p_spec_l00Src_one m s = some (r, s') ∧ SrcOk b s' := by
  obtain ⟨r, s1, e1, _, o1⟩ := pick_ok m hb h
  unfold p_spec_l00Src_one
  rw [e1, callK_some]
  exact ⟨_, _, rfl, o1⟩

noncomputable def p_spec_l00Src_word (a_0 : Int) (a_1 : Sl00Src) : Option (ByteArray × Sl00Src) :=
  callK (p_spec_l00Src_pick a_0 a_1) fun y1 =>
  iterK (fun ((v2, v3, v4) : (Int × Sl00Src × (List Int))) (nx5 : (Int × Sl00Src × (List Int)) → Option _) =>
    if v2 > 0 then
      callK (p_spec_l00Src_next v3) fun y7 =>
      grd (appOk (v4.length + 1) 1 = true) <|
      nx5 ((IntKind.i64.wrap (v2 - 1)), y7.2, (v4 ++ ([(IntKind.u8.wrap y7.1)] : List Int)))
    else
      some ((bytesOf (v4.map rU)), v3)) NN (y1.1, y1.2, ([] : List Int))

set_option maxHeartbeats 4000000 in
theorem L_spec_l00Src_word (a_0 : Int) (a_1 : Sl00Src) {r : (ByteArray × Sl00Src)} (h : p_spec_l00Src_word a_0 a_1 = some r) : callL E 179 [.bp 0 0, IN a_0] ([some (.box [.d (.arr (a_1.Code.map rU)), IN a_1.At, .d (.lit (.int .u64 a_1.Seed))])] : Fo) = some (ST r.1, ([some (.box [.d (.arr (r.2.Code.map rU)), IN r.2.At, .d (.lit (.int .u64 r.2.Seed))])] : Fo)) := by
  unfold p_spec_l00Src_word at h
  refine callW (fu := Try.f179) rfl rfl rfl NN ?_
  intro lp cl hlp hcl
  conv => lhs; whnf
  obtain ⟨y1, h_y1, h⟩ := callK_inv h
  rw [cl_eq hcl (L_spec_l00Src_pick a_0 a_1 h_y1)]
  rotate_left
  · show _ = _; kernel_rfl
  · show _ = _; kernel_rfl
  conv => lhs; whnf
  refine loop_iter hlp (fun ((v2, v3, v4) : (Int × Sl00Src × (List Int))) => ([.bp 0 0, .dead, .dead, .dead, .dead, .sl 1, IN v2] ++ List.replicate 16 .dead : List V)) (fun ((v2, v3, v4) : (Int × Sl00Src × (List Int))) => ([some (.box [.d (.arr (v3.Code.map rU)), IN v3.At, .d (.lit (.int .u64 v3.Seed))]), some (.arr 5 1 (v4.map rU))] : Fo)) (fun (r : (ByteArray × Sl00Src)) => ((ST r.1 : V), ([some (.box [.d (.arr (r.2.Code.map rU)), IN r.2.At, .d (.lit (.int .u64 r.2.Seed))])] : Fo))) ?_ (y1.1, y1.2, ([] : List Int)) _ (fun kk => by kernel_rfl) h
  clear h
  rintro next_nx5 nx5 hnx5 ⟨v2, v3, v4⟩ r h
  try dsimp only at h
  conv => lhs; whnf
  cases hb6 : (decide (v2 > 0))
  · replace h := ifF h (decF hb6); conv => lhs; whnf
    try rw [byteRows_rU]
    conv => lhs; whnf
    obtain rfl := Option.some.inj h; show _ = _; kernel_rfl

  · replace h := ifT h (decT hb6); conv => lhs; whnf
    obtain ⟨y7, h_y7, h⟩ := callK_inv h
    rw [cl_eq hcl (L_spec_l00Src_next v3 h_y7)]
    rotate_left
    · show _ = _; kernel_rfl
    · show _ = _; kernel_rfl
    conv => lhs; whnf
    obtain ⟨hg8, h⟩ := grd_inv h
    rw [app_eq hg8 ?h1 ?h2]
    case h1 => first | exact rfl | (simp only [List.length_map, List.length_cons, List.length_nil]; done) | (rw [List.length_map]; rfl)
    case h2 => exact rfl
    conv => lhs; whnf
    first | (rw [map_app_of (r := rU) (l := v4) (m := ([(IntKind.u8.wrap y7.1)] : List Int)) ?hh]; case hh => exact rfl) | skip
    exact hnx5 _ _ _ _ (fun kk => by kernel_rfl) h
theorem word_ok {b : Int} {s : Sl00Src} (m : Int) (hm : m ≤ 1000) (hb : 0 ≤ b) (h : SrcOk (b + 1010) s) : ∃ r, p_spec_l00Src_word m s = some r ∧ (SrcOk b r.2 ∧ ((r.1.size : Int) < m ∨ r.1.size = 0)) := by
  obtain ⟨k, s1, e1, ⟨b1, b2, b3⟩, o1⟩ := pick_ok (b := b + 1005) m (by omega) (h.le (by omega))
  unfold p_spec_l00Src_word
  rw [e1, callK_some]
  have hk : k < 1000 := by rcases Int.lt_or_le 1 m with h | h; · have := b2 h; omega
                           · have := b3 h; omega
  refine iterK_ex (fun d (x : Int × Sl00Src × List Int) => d = x.1.toNat ∧ 0 ≤ x.1 ∧ x.1 ≤ k ∧ (x.2.2.length : Int) = k - x.1 ∧ SrcOk (b + x.1) x.2.1) ?_ k.toNat _ (by unfold NN; omega) ⟨rfl, b1, Int.le_refl _, by simp, o1.le (by dsimp only; omega)⟩
  rintro d ⟨q, s, l⟩ ⟨rfl, h0, h8, hl, ho⟩ nx hnx
  dsimp only at h0 h8 hl ho hnx ⊢
  split
  · rename_i hq
    obtain ⟨v, s3, e3, _, o3⟩ := next_ok (b := b + q - 1) (by omega) (ho.le (by omega))
    rw [e3, callK_some, grd_pos (appOk_of _ _ (by omega)), wrap_sm (q - 1) (by omega) (by omega)]
    exact hnx (q - 1).toNat _ (by omega) ⟨rfl, by dsimp only; omega, by dsimp only; omega, by simp; omega, o3.le (by dsimp only; omega)⟩
  · rename_i hq
    refine ⟨_, rfl, ho.le (by omega), ?_⟩
    dsimp only
    rw [bytesOf_rU, size_ofL, List.length_map]
    rcases Int.lt_or_le 1 m with h | h
    · have := b2 h; exact .inl (by omega)
    · have := b3 h; exact .inr (by omega)

noncomputable def p_laws_b10Long (a_0 : List Int) (a_1 : List Int) : Option Bool :=
  if (a_0.length : Int) > 1048576 then
    some true
  else
    some (decide ((a_1.length : Int) > 1048576))

set_option maxHeartbeats 4000000 in
theorem L_laws_b10Long (a_0 : List Int) (a_1 : List Int) {r : Bool} (h : p_laws_b10Long a_0 a_1 = some r) : callL E 55 [.d (.arr (a_0.map rU)), .d (.arr (a_1.map rU))] ([] : Fo) = some (BO r, ([] : Fo)) := by
  unfold p_laws_b10Long at h
  refine callW (fu := Try.f55) rfl rfl rfl NN ?_
  intro lp cl hlp hcl
  conv => lhs; whnf
  try rw [len_of (l := a_0) (r := rU)]
  cases hb1 : (decide ((a_0.length : Int) > 1048576))
  · replace h := ifF h (decF hb1); conv => lhs; whnf
    try (rw [hb1]; conv => lhs; whnf)
    try rw [len_of (l := a_1) (r := rU)]
    try (rw [hb1]; conv => lhs; whnf)
    try (rw [hb1]; conv => lhs; whnf)
    obtain rfl := Option.some.inj h; show _ = _; kernel_rfl

  · replace h := ifT h (decT hb1); conv => lhs; whnf
    try (rw [hb1]; conv => lhs; whnf)
    try (rw [hb1]; conv => lhs; whnf)
    try (rw [hb1]; conv => lhs; whnf)
    obtain rfl := Option.some.inj h; show _ = _; kernel_rfl


noncomputable def p_spec_l01Int (a_0 : Sl00Src) : Option (Int × Sl00Src) :=
  callK (p_spec_l00Src_pick 4 a_0) fun y1 =>
  if y1.1 = 0 then
    callK (p_spec_l00Src_among ([0, 1, 127, 128, 16383, 16384, 255, 256, 65535, 9223372036854775807, 4611686018427387904, (-1), (-9223372036854775808), (-128)] : List Int) y1.2) fun y3 =>
    some (y3.1, y3.2)
  else
    if y1.1 = 1 then
      callK (p_spec_l00Src_pick 60000 y1.2) fun y5 =>
      some (y5.1, y5.2)
    else
      callK (p_spec_l00Src_pick 200 y1.2) fun y6 =>
      some (y6.1, y6.2)

set_option maxHeartbeats 4000000 in
theorem L_spec_l01Int (a_0 : Sl00Src) {r : (Int × Sl00Src)} (h : p_spec_l01Int a_0 = some r) : callL E 175 [.bp 0 0] ([some (.box [.d (.arr (a_0.Code.map rU)), IN a_0.At, .d (.lit (.int .u64 a_0.Seed))])] : Fo) = some (IN r.1, ([some (.box [.d (.arr (r.2.Code.map rU)), IN r.2.At, .d (.lit (.int .u64 r.2.Seed))])] : Fo)) := by
  unfold p_spec_l01Int at h
  refine callW (fu := Try.f175) rfl rfl rfl NN ?_
  intro lp cl hlp hcl
  conv => lhs; whnf
  obtain ⟨y1, h_y1, h⟩ := callK_inv h
  rw [cl_eq hcl (L_spec_l00Src_pick 4 a_0 h_y1)]
  rotate_left
  · show _ = _; kernel_rfl
  · show _ = _; kernel_rfl
  conv => lhs; whnf
  cases hb2 : (y1.1 == 0)
  · replace h := ifF h (beqF hb2); conv => lhs; whnf
    cases hb4 : (y1.1 == 1)
    · replace h := ifF h (beqF hb4); conv => lhs; whnf
      obtain ⟨y6, h_y6, h⟩ := callK_inv h
      rw [cl_eq hcl (L_spec_l00Src_pick 200 y1.2 h_y6)]
      rotate_left
      · show _ = _; kernel_rfl
      · show _ = _; kernel_rfl
      conv => lhs; whnf
      obtain rfl := Option.some.inj h; show _ = _; kernel_rfl

    · replace h := ifT h (beqT hb4); conv => lhs; whnf
      obtain ⟨y5, h_y5, h⟩ := callK_inv h
      rw [cl_eq hcl (L_spec_l00Src_pick 60000 y1.2 h_y5)]
      rotate_left
      · show _ = _; kernel_rfl
      · show _ = _; kernel_rfl
      conv => lhs; whnf
      obtain rfl := Option.some.inj h; show _ = _; kernel_rfl

  · replace h := ifT h (beqT hb2); conv => lhs; whnf
    obtain ⟨y3, h_y3, h⟩ := callK_inv h
    rw [cl_eq hcl (L_spec_l00Src_among ([0, 1, 127, 128, 16383, 16384, 255, 256, 65535, 9223372036854775807, 4611686018427387904, (-1), (-9223372036854775808), (-128)] : List Int) y1.2 h_y3)]
    rotate_left
    · show _ = _; kernel_rfl
    · show _ = _; kernel_rfl
    conv => lhs; whnf
    obtain rfl := Option.some.inj h; show _ = _; kernel_rfl


noncomputable def p_spec_DrawEncodeUvarint (a_0 : List Int) : Option Int :=
  callK (p_spec_l00From a_0) fun y1 =>
  callK (p_spec_l01Int y1) fun y2 =>
  some y2.1

set_option maxHeartbeats 4000000 in
theorem L_spec_DrawEncodeUvarint (a_0 : List Int) {r : Int} (h : p_spec_DrawEncodeUvarint a_0 = some r) : callL E 83 [.d (.arr (a_0.map rU))] ([] : Fo) = some (IN r, ([] : Fo)) := by
  unfold p_spec_DrawEncodeUvarint at h
  refine callW (fu := Try.f83) rfl rfl rfl NN ?_
  intro lp cl hlp hcl
  conv => lhs; whnf
  obtain ⟨y1, h_y1, h⟩ := callK_inv h
  rw [cl_eq hcl (L_spec_l00From a_0 h_y1)]
  rotate_left
  · show _ = _; kernel_rfl
  · show _ = _; kernel_rfl
  conv => lhs; whnf
  obtain ⟨y2, h_y2, h⟩ := callK_inv h
  rw [cl_eq hcl (L_spec_l01Int y1 h_y2)]
  rotate_left
  · show _ = _; kernel_rfl
  · show _ = _; kernel_rfl
  conv => lhs; whnf
  obtain rfl := Option.some.inj h; show _ = _; kernel_rfl


noncomputable def p_impl_EncodeUvarint (a_0 : Int) : Option ByteArray :=
  if a_0 < 0 then
    some (⟨#[]⟩ : ByteArray)
  else
    iterK (fun ((v2, v3) : (Int × (List Int))) (nx4 : (Int × (List Int)) → Option _) =>
      if v2 ≥ 128 then
        grd (appOk (v3.length + 1) 1 = true) <|
        nx4 ((Int.fdiv v2 (2 ^ (min (Int.toNat 7) IntKind.i64.bits))), (v3 ++ ([(orK .u8 (IntKind.u8.wrap v2) 128)] : List Int)))
      else
        grd (appOk (v3.length + 1) 1 = true) <|
        some (bytesOf ((v3 ++ ([(IntKind.u8.wrap v2)] : List Int)).map rU))) NN (a_0, ([] : List Int))

set_option maxHeartbeats 4000000 in
theorem L_impl_EncodeUvarint (a_0 : Int) {r : ByteArray} (h : p_impl_EncodeUvarint a_0 = some r) : callL E 84 [IN a_0] ([] : Fo) = some (ST r, ([] : Fo)) := by
  unfold p_impl_EncodeUvarint at h
  refine callW (fu := Try.f84) rfl rfl rfl NN ?_
  intro lp cl hlp hcl
  conv => lhs; whnf
  cases hb1 : (decide (a_0 < 0))
  · replace h := ifF h (decF hb1); conv => lhs; whnf
    refine loop_iter hlp (fun ((v2, v3) : (Int × (List Int))) => ([IN v2, .dead, .dead, .sl 0] ++ List.replicate 18 .dead : List V)) (fun ((v2, v3) : (Int × (List Int))) => ([some (.arr 5 1 (v3.map rU))] : Fo)) (fun (r : ByteArray) => ((ST r : V), ([] : Fo))) ?_ (a_0, ([] : List Int)) _ (fun kk => by kernel_rfl) h
    clear h
    rintro next_nx4 nx4 hnx4 ⟨v2, v3⟩ r h
    try dsimp only at h
    conv => lhs; whnf
    cases hb5 : (decide (v2 ≥ 128))
    · replace h := ifF h (decF hb5); conv => lhs; whnf
      obtain ⟨hg6, h⟩ := grd_inv h
      rw [app_eq hg6 ?h1 ?h2]
      case h1 => first | exact rfl | (simp only [List.length_map, List.length_cons, List.length_nil]; done) | (rw [List.length_map]; rfl)
      case h2 => exact rfl
      conv => lhs; whnf
      first | (rw [map_app_of (r := rU) (l := v3) (m := ([(IntKind.u8.wrap v2)] : List Int)) ?hh]; case hh => exact rfl) | skip
      try rw [byteRows_rU]
      conv => lhs; whnf
      obtain rfl := Option.some.inj h; show _ = _; kernel_rfl

    · replace h := ifT h (decT hb5); conv => lhs; whnf
      obtain ⟨hg7, h⟩ := grd_inv h
      rw [app_eq hg7 ?h1 ?h2]
      case h1 => first | exact rfl | (simp only [List.length_map, List.length_cons, List.length_nil]; done) | (rw [List.length_map]; rfl)
      case h2 => exact rfl
      conv => lhs; whnf
      first | (rw [map_app_of (r := rU) (l := v3) (m := ([(orK .u8 (IntKind.u8.wrap v2) 128)] : List Int)) ?hh]; case hh => exact rfl) | skip
      exact hnx4 _ _ _ _ (fun kk => by kernel_rfl) h
  · replace h := ifT h (decT hb1); conv => lhs; whnf
    obtain rfl := Option.some.inj h; show _ = _; kernel_rfl


noncomputable def p_impl_DecodeUvarint (a_0 : ByteArray) : Option (Int × Int × Bool) :=
  grd ((ByteArray.size a_0 : Int) < 4611686018427387904) <|
  forI (ByteArray.size a_0 : Int) (fun (i9 : Nat) (v10 : Int) (nx11 : Int → Option _) =>
    if (i9 : Int) < 9 then
      getB a_0 (i9 : Int) fun c13 =>
      grd (0 ≤ (IntKind.i64.wrap (7 * (i9 : Int)))) <|
      if c13 < 128 then
        if (i9 : Int) > 0 then
          if c13 = 0 then
            some (0, 0, false)
          else
            some ((orK .i64 v10 (IntKind.i64.wrap ((IntKind.i64.wrap (andK .u8 c13 127)) * 2 ^ (min (Int.toNat (IntKind.i64.wrap (7 * (i9 : Int)))) IntKind.i64.bits)))), (IntKind.i64.wrap ((i9 : Int) + 1)), true)
        else
          some ((orK .i64 v10 (IntKind.i64.wrap ((IntKind.i64.wrap (andK .u8 c13 127)) * 2 ^ (min (Int.toNat (IntKind.i64.wrap (7 * (i9 : Int)))) IntKind.i64.bits)))), (IntKind.i64.wrap ((i9 : Int) + 1)), true)
      else
        nx11 (orK .i64 v10 (IntKind.i64.wrap ((IntKind.i64.wrap (andK .u8 c13 127)) * 2 ^ (min (Int.toNat (IntKind.i64.wrap (7 * (i9 : Int)))) IntKind.i64.bits))))
    else
      some (0, 0, false)) 0 (fun (v10 : Int) =>
    some (0, 0, false))

set_option maxHeartbeats 4000000 in
theorem L_impl_DecodeUvarint (a_0 : ByteArray) {r : (Int × Int × Bool)} (h : p_impl_DecodeUvarint a_0 = some r) : callL E 85 [ST a_0] ([] : Fo) = some (.tup [IN r.1, IN r.2.1, BO r.2.2], ([] : Fo)) := by
  unfold p_impl_DecodeUvarint at h
  refine callW (fu := Try.f85) rfl rfl rfl NN ?_
  intro lp cl hlp hcl
  conv => lhs; whnf
  obtain ⟨hl_i9, h⟩ := grd_inv h
  refine loop_forI hlp (n := (ByteArray.size a_0 : Int)) hl_i9 (fun (i9 : Nat) (v10 : Int) => ([ST a_0, .dead, .dead, .dead, .dead, IN v10, IN (i9 : Int)] ++ List.replicate 35 .dead : List V)) (fun (i9 : Nat) (v10 : Int) => ([] : Fo)) (fun (r : (Int × Int × Bool)) => ((.tup [IN r.1, IN r.2.1, BO r.2.2] : V), ([] : Fo))) ?_ ?_ 0 _ (fun kk => by kernel_rfl) h
  · clear h
    rintro next_nx11 nx11 i9 hi_i9 hnx11 v10 r h
    try dsimp only at h
    have hn_i9 : i9 < 4611686018427387904 := by omega
    have hd_i9 : (decide ((i9 : Int) < (ByteArray.size a_0 : Int))) = true := decide_eq_true (by omega)
    conv => lhs; whnf
    rw [hd_i9]
    conv => lhs; whnf
    try (rw [hd_i9]; conv => lhs; whnf)
    try (rw [hd_i9]; conv => lhs; whnf)
    cases hb12 : (decide ((i9 : Int) < 9))
    · replace h := ifF h (decF hb12); conv => lhs; whnf
      obtain rfl := Option.some.inj h; show _ = _; kernel_rfl

    · replace h := ifT h (decT hb12); conv => lhs; whnf
      obtain ⟨c13', hq_c13, hc_c13, h⟩ := getB_inv h
      try (rw [decide_eq_true hq_c13]; conv => lhs; whnf)
      rw [hc_c13]
      conv => lhs; whnf
      generalize he_c13 : (c13'.toNat : Int) = c13 at h ⊢
      conv => lhs; whnf
      obtain ⟨hg17, h⟩ := grd_inv h
      try (rw [shl_run _ _ _ _ _ hg17]; conv => lhs; whnf)
      conv => lhs; whnf
      try (rw [decide_eq_true hq_c13]; conv => lhs; whnf)
      rw [hc_c13]
      conv => lhs; whnf
      try rw [he_c13]
      conv => lhs; whnf
      cases hb14 : (decide (c13 < 128))
      · replace h := ifF h (decF hb14); conv => lhs; whnf
        rw [wrap_nat i9 (by have := hn_i9; omega)]
        exact hnx11 _ _ _ _ (fun kk => by kernel_rfl) h
      · replace h := ifT h (decT hb14); conv => lhs; whnf
        cases hb15 : (decide ((i9 : Int) > 0))
        · replace h := ifF h (decF hb15); conv => lhs; whnf
          try (rw [hb15]; conv => lhs; whnf)
          try (rw [hb15]; conv => lhs; whnf)
          try (rw [hb15]; conv => lhs; whnf)
          try (rw [hb15]; conv => lhs; whnf)
          obtain rfl := Option.some.inj h; show _ = _; kernel_rfl

        · replace h := ifT h (decT hb15); conv => lhs; whnf
          try (rw [hb15]; conv => lhs; whnf)
          try (rw [hb15]; conv => lhs; whnf)
          try (rw [decide_eq_true hq_c13]; conv => lhs; whnf)
          rw [hc_c13]
          conv => lhs; whnf
          try rw [he_c13]
          conv => lhs; whnf
          try (rw [hb15]; conv => lhs; whnf)
          try (rw [hb15]; conv => lhs; whnf)
          cases hb16 : (c13 == 0)
          · replace h := ifF h (beqF hb16); conv => lhs; whnf
            obtain rfl := Option.some.inj h; show _ = _; kernel_rfl

          · replace h := ifT h (beqT hb16); conv => lhs; whnf
            obtain rfl := Option.some.inj h; show _ = _; kernel_rfl

  · clear h
    rintro next_nx11 v10 r h
    try dsimp only at h
    have hd_i9 : (decide (((Int.toNat (ByteArray.size a_0 : Int)) : Int) < (ByteArray.size a_0 : Int))) = false := decide_eq_false (by omega)
    conv => lhs; whnf
    rw [hd_i9]
    conv => lhs; whnf
    try (rw [hd_i9]; conv => lhs; whnf)
    try (rw [hd_i9]; conv => lhs; whnf)
    obtain rfl := Option.some.inj h; show _ = _; kernel_rfl


noncomputable def p_spec_l00Src_text (a_0 : List ByteArray) (a_1 : Sl00Src) : Option (ByteArray × Sl00Src) :=
  callK (p_spec_l00Src_pick (a_0.length : Int) a_1) fun y1 =>
  getK a_0 y1.1 fun x2 =>
  some (x2, y1.2)

set_option maxHeartbeats 4000000 in
theorem L_spec_l00Src_text (a_0 : List ByteArray) (a_1 : Sl00Src) {r : (ByteArray × Sl00Src)} (h : p_spec_l00Src_text a_0 a_1 = some r) : callL E 176 [.bp 0 0, .d (.arr (a_0.map rS))] ([some (.box [.d (.arr (a_1.Code.map rU)), IN a_1.At, .d (.lit (.int .u64 a_1.Seed))])] : Fo) = some (ST r.1, ([some (.box [.d (.arr (r.2.Code.map rU)), IN r.2.At, .d (.lit (.int .u64 r.2.Seed))])] : Fo)) := by
  unfold p_spec_l00Src_text at h
  refine callW (fu := Try.f176) rfl rfl rfl NN ?_
  intro lp cl hlp hcl
  conv => lhs; whnf
  try rw [len_of (l := a_0) (r := rS)]
  obtain ⟨y1, h_y1, h⟩ := callK_inv h
  rw [cl_eq hcl (L_spec_l00Src_pick (a_0.length : Int) a_1 h_y1)]
  rotate_left
  · show _ = _; kernel_rfl
  · show _ = _; kernel_rfl
  conv => lhs; whnf
  obtain ⟨x2, hq_x2, hx_x2', h⟩ := getK_inv h
  have hx_x2 := get_of (r := rS) hx_x2'
  try (rw [decide_eq_true hq_x2]; conv => lhs; whnf)
  rw [hx_x2]
  conv => lhs; whnf
  rw [hx_x2]
  conv => lhs; whnf
  obtain rfl := Option.some.inj h; show _ = _; kernel_rfl


noncomputable def p_spec_EncodeUvarint (a_0 : Int) : Option ByteArray :=
  if a_0 < 0 then
    some (⟨#[]⟩ : ByteArray)
  else
    iterK (fun ((v2, v3) : (Int × (List Int))) (nx4 : (Int × (List Int)) → Option _) =>
      if v2 > 127 then
        grd (appOk (v3.length + 1) 1 = true) <|
        nx4 ((Int.fdiv v2 (2 ^ (min (Int.toNat 7) IntKind.i64.bits))), (v3 ++ ([(IntKind.u8.wrap (orK .i64 (andK .i64 v2 127) 128))] : List Int)))
      else
        grd (appOk (v3.length + 1) 1 = true) <|
        some (bytesOf ((v3 ++ ([(IntKind.u8.wrap v2)] : List Int)).map rU))) NN (a_0, ([] : List Int))

set_option maxHeartbeats 4000000 in
theorem L_spec_EncodeUvarint (a_0 : Int) {r : ByteArray} (h : p_spec_EncodeUvarint a_0 = some r) : callL E 178 [IN a_0] ([] : Fo) = some (ST r, ([] : Fo)) := by
  unfold p_spec_EncodeUvarint at h
  refine callW (fu := Try.f178) rfl rfl rfl NN ?_
  intro lp cl hlp hcl
  conv => lhs; whnf
  cases hb1 : (decide (a_0 < 0))
  · replace h := ifF h (decF hb1); conv => lhs; whnf
    refine loop_iter hlp (fun ((v2, v3) : (Int × (List Int))) => ([IN v2, .dead, .dead, .sl 0] ++ List.replicate 20 .dead : List V)) (fun ((v2, v3) : (Int × (List Int))) => ([some (.arr 5 1 (v3.map rU))] : Fo)) (fun (r : ByteArray) => ((ST r : V), ([] : Fo))) ?_ (a_0, ([] : List Int)) _ (fun kk => by kernel_rfl) h
    clear h
    rintro next_nx4 nx4 hnx4 ⟨v2, v3⟩ r h
    try dsimp only at h
    conv => lhs; whnf
    cases hb5 : (decide (v2 > 127))
    · replace h := ifF h (decF hb5); conv => lhs; whnf
      obtain ⟨hg6, h⟩ := grd_inv h
      rw [app_eq hg6 ?h1 ?h2]
      case h1 => first | exact rfl | (simp only [List.length_map, List.length_cons, List.length_nil]; done) | (rw [List.length_map]; rfl)
      case h2 => exact rfl
      conv => lhs; whnf
      first | (rw [map_app_of (r := rU) (l := v3) (m := ([(IntKind.u8.wrap v2)] : List Int)) ?hh]; case hh => exact rfl) | skip
      try rw [byteRows_rU]
      conv => lhs; whnf
      obtain rfl := Option.some.inj h; show _ = _; kernel_rfl

    · replace h := ifT h (decT hb5); conv => lhs; whnf
      obtain ⟨hg7, h⟩ := grd_inv h
      rw [app_eq hg7 ?h1 ?h2]
      case h1 => first | exact rfl | (simp only [List.length_map, List.length_cons, List.length_nil]; done) | (rw [List.length_map]; rfl)
      case h2 => exact rfl
      conv => lhs; whnf
      first | (rw [map_app_of (r := rU) (l := v3) (m := ([(IntKind.u8.wrap (orK .i64 (andK .i64 v2 127) 128))] : List Int)) ?hh]; case hh => exact rfl) | skip
      exact hnx4 _ _ _ _ (fun kk => by kernel_rfl) h
  · replace h := ifT h (decT hb1); conv => lhs; whnf
    obtain rfl := Option.some.inj h; show _ = _; kernel_rfl


noncomputable def p_spec_l01Damage (a_0 : ByteArray) (a_1 : Sl00Src) : Option (ByteArray × Sl00Src) :=
  callK (p_spec_l00Src_pick 6 a_1) fun y1 =>
  if y1.1 = 0 then
    callK (p_spec_l00Src_word 3 y1.2) fun y3 =>
    grd (((ByteArray.size a_0 + ByteArray.size y3.1 : Nat) : Int) ≤ 9223372036854775807) <|
    some ((a_0 ++ y3.1), y3.2)
  else
    if y1.1 = 1 then
      callK (p_spec_l00Src_pick (IntKind.i64.wrap ((ByteArray.size a_0 : Int) + 1)) y1.2) fun y5 =>
      grd (0 ≤ 0 ∧ 0 ≤ y5.1 ∧ y5.1 ≤ (ByteArray.size a_0 : Int)) <|
      some ((ByteArray.extract a_0 (Int.toNat 0) (Int.toNat y5.1)), y5.2)
    else
      if y1.1 = 2 then
        if (ByteArray.size a_0 : Int) > 0 then
          grd (appOk (ByteArray.size a_0) 1 = true) <|
          callK (p_spec_l00Src_pick ((bytesL a_0).length : Int) y1.2) fun y8 =>
          getK (bytesL a_0) y8.1 fun x9 =>
          callK (p_spec_l00Src_pick 8 y8.2) fun y10 =>
          grd (0 ≤ (IntKind.u64.wrap y10.1)) <|
          some ((bytesOf (((bytesL a_0).set (Int.toNat y8.1) (xorK .u8 x9 (IntKind.u8.wrap (1 * 2 ^ (min (Int.toNat (IntKind.u64.wrap y10.1)) IntKind.u8.bits))))).map rU)), y10.2)
        else
          some (a_0, y1.2)
      else
        some (a_0, y1.2)

set_option maxHeartbeats 4000000 in
theorem L_spec_l01Damage (a_0 : ByteArray) (a_1 : Sl00Src) {r : (ByteArray × Sl00Src)} (h : p_spec_l01Damage a_0 a_1 = some r) : callL E 177 [.bp 0 0, ST a_0] ([some (.box [.d (.arr (a_1.Code.map rU)), IN a_1.At, .d (.lit (.int .u64 a_1.Seed))])] : Fo) = some (ST r.1, ([some (.box [.d (.arr (r.2.Code.map rU)), IN r.2.At, .d (.lit (.int .u64 r.2.Seed))])] : Fo)) := by
  unfold p_spec_l01Damage at h
  refine callW (fu := Try.f177) rfl rfl rfl NN ?_
  intro lp cl hlp hcl
  conv => lhs; whnf
  obtain ⟨y1, h_y1, h⟩ := callK_inv h
  rw [cl_eq hcl (L_spec_l00Src_pick 6 a_1 h_y1)]
  rotate_left
  · show _ = _; kernel_rfl
  · show _ = _; kernel_rfl
  conv => lhs; whnf
  cases hb2 : (y1.1 == 0)
  · replace h := ifF h (beqF hb2); conv => lhs; whnf
    cases hb4 : (y1.1 == 1)
    · replace h := ifF h (beqF hb4); conv => lhs; whnf
      cases hb6 : (y1.1 == 2)
      · replace h := ifF h (beqF hb6); conv => lhs; whnf
        obtain rfl := Option.some.inj h; show _ = _; kernel_rfl

      · replace h := ifT h (beqT hb6); conv => lhs; whnf
        cases hb7 : (decide ((ByteArray.size a_0 : Int) > 0))
        · replace h := ifF h (decF hb7); conv => lhs; whnf
          obtain rfl := Option.some.inj h; show _ = _; kernel_rfl

        · replace h := ifT h (decT hb7); conv => lhs; whnf
          obtain ⟨hg11, h⟩ := grd_inv h
          rw [hg11]
          conv => lhs; whnf
          conv => lhs; whnf
          try rw [bytesL_of]
          try rw [len_of (l := (bytesL a_0)) (r := rU)]
          obtain ⟨y8, h_y8, h⟩ := callK_inv h
          rw [cl_eq hcl (L_spec_l00Src_pick ((bytesL a_0).length : Int) y1.2 h_y8)]
          rotate_left
          · show _ = _; kernel_rfl
          · show _ = _; kernel_rfl
          conv => lhs; whnf
          obtain ⟨x9, hq_x9, hx_x9', h⟩ := getK_inv h
          have hx_x9 := get_of (r := rU) hx_x9'
          try (rw [decide_eq_true hq_x9]; conv => lhs; whnf)
          rw [hx_x9]
          conv => lhs; whnf
          rw [hx_x9]
          conv => lhs; whnf
          obtain ⟨y10, h_y10, h⟩ := callK_inv h
          rw [cl_eq hcl (L_spec_l00Src_pick 8 y8.2 h_y10)]
          rotate_left
          · show _ = _; kernel_rfl
          · show _ = _; kernel_rfl
          conv => lhs; whnf
          obtain ⟨hg12, h⟩ := grd_inv h
          try (rw [shl_run _ _ _ _ _ hg12]; conv => lhs; whnf)
          conv => lhs; whnf
          try (rw [decide_eq_true hq_x9]; conv => lhs; whnf)
          rw [hx_x9]
          conv => lhs; whnf
          rw [hx_x9]
          conv => lhs; whnf
          first | (rw [map_set_of (r := rU) (l := (bytesL a_0)) (x := (xorK .u8 x9 (IntKind.u8.wrap (1 * 2 ^ (min (Int.toNat (IntKind.u64.wrap y10.1)) IntKind.u8.bits))))) ?hh]; case hh => exact rfl) | skip
          try rw [byteRows_rU]
          conv => lhs; whnf
          obtain rfl := Option.some.inj h; show _ = _; kernel_rfl

    · replace h := ifT h (beqT hb4); conv => lhs; whnf
      obtain ⟨y5, h_y5, h⟩ := callK_inv h
      rw [cl_eq hcl (L_spec_l00Src_pick (IntKind.i64.wrap ((ByteArray.size a_0 : Int) + 1)) y1.2 h_y5)]
      rotate_left
      · show _ = _; kernel_rfl
      · show _ = _; kernel_rfl
      conv => lhs; whnf
      obtain ⟨hg13, h⟩ := grd_inv h
      try (rw [decide_eq_true hg13.1]; conv => lhs; whnf)
      try (rw [decide_eq_true hg13.2.1]; conv => lhs; whnf)
      try (rw [decide_eq_true hg13.2.2])
      conv => lhs; whnf
      obtain rfl := Option.some.inj h; show _ = _; kernel_rfl

  · replace h := ifT h (beqT hb2); conv => lhs; whnf
    obtain ⟨y3, h_y3, h⟩ := callK_inv h
    rw [cl_eq hcl (L_spec_l00Src_word 3 y1.2 h_y3)]
    rotate_left
    · show _ = _; kernel_rfl
    · show _ = _; kernel_rfl
    conv => lhs; whnf
    obtain ⟨hg14, h⟩ := grd_inv h
    rw [cat_run _ _ _ hg14]
    conv => lhs; whnf
    obtain rfl := Option.some.inj h; show _ = _; kernel_rfl


noncomputable def p_spec_DrawDecodeUvarint (a_0 : List Int) : Option ByteArray :=
  callK (p_spec_l00From a_0) fun y1 =>
  callK (p_spec_l00Src_one 4 y1) fun y2 =>
  if y2.1 = true then
    callK (p_spec_l00Src_text ([(⟨#[]⟩ : ByteArray), (⟨#[128]⟩ : ByteArray), (⟨#[128, 0]⟩ : ByteArray), (⟨#[255, 255, 255, 255, 255, 255, 255, 255, 127]⟩ : ByteArray), (⟨#[255, 255, 255, 255, 255, 255, 255, 255, 255, 1]⟩ : ByteArray), (⟨#[129, 128, 0]⟩ : ByteArray)] : List ByteArray) y2.2) fun y4 =>
    some y4.1
  else
    callK (p_spec_l01Int y2.2) fun y5 =>
    callK (p_spec_EncodeUvarint y5.1) fun y6 =>
    callK (p_spec_l01Damage y6 y5.2) fun y7 =>
    some y7.1

set_option maxHeartbeats 4000000 in
theorem L_spec_DrawDecodeUvarint (a_0 : List Int) {r : ByteArray} (h : p_spec_DrawDecodeUvarint a_0 = some r) : callL E 86 [.d (.arr (a_0.map rU))] ([] : Fo) = some (ST r, ([] : Fo)) := by
  unfold p_spec_DrawDecodeUvarint at h
  refine callW (fu := Try.f86) rfl rfl rfl NN ?_
  intro lp cl hlp hcl
  conv => lhs; whnf
  obtain ⟨y1, h_y1, h⟩ := callK_inv h
  rw [cl_eq hcl (L_spec_l00From a_0 h_y1)]
  rotate_left
  · show _ = _; kernel_rfl
  · show _ = _; kernel_rfl
  conv => lhs; whnf
  obtain ⟨y2, h_y2, h⟩ := callK_inv h
  rw [cl_eq hcl (L_spec_l00Src_one 4 y1 h_y2)]
  rotate_left
  · show _ = _; kernel_rfl
  · show _ = _; kernel_rfl
  conv => lhs; whnf
  cases hb3 : y2.1
  · replace h := ifF h (booF hb3); conv => lhs; whnf
    obtain ⟨y5, h_y5, h⟩ := callK_inv h
    rw [cl_eq hcl (L_spec_l01Int y2.2 h_y5)]
    rotate_left
    · show _ = _; kernel_rfl
    · show _ = _; kernel_rfl
    conv => lhs; whnf
    obtain ⟨y6, h_y6, h⟩ := callK_inv h
    rw [cl_eq hcl (L_spec_EncodeUvarint y5.1 h_y6)]
    rotate_left
    · show _ = _; kernel_rfl
    · show _ = _; kernel_rfl
    conv => lhs; whnf
    obtain ⟨y7, h_y7, h⟩ := callK_inv h
    rw [cl_eq hcl (L_spec_l01Damage y6 y5.2 h_y7)]
    rotate_left
    · show _ = _; kernel_rfl
    · show _ = _; kernel_rfl
    conv => lhs; whnf
    obtain rfl := Option.some.inj h; show _ = _; kernel_rfl

  · replace h := ifT h hb3; conv => lhs; whnf
    obtain ⟨y4, h_y4, h⟩ := callK_inv h
    rw [cl_eq hcl (L_spec_l00Src_text ([(⟨#[]⟩ : ByteArray), (⟨#[128]⟩ : ByteArray), (⟨#[128, 0]⟩ : ByteArray), (⟨#[255, 255, 255, 255, 255, 255, 255, 255, 127]⟩ : ByteArray), (⟨#[255, 255, 255, 255, 255, 255, 255, 255, 255, 1]⟩ : ByteArray), (⟨#[129, 128, 0]⟩ : ByteArray)] : List ByteArray) y2.2 h_y4)]
    rotate_left
    · show _ = _; kernel_rfl
    · show _ = _; kernel_rfl
    conv => lhs; whnf
    obtain rfl := Option.some.inj h; show _ = _; kernel_rfl


noncomputable def p_spec_DrawEncodeString (a_0 : List Int) : Option ByteArray :=
  callK (p_spec_l00From a_0) fun y1 =>
  callK (p_spec_l00Src_word 200 y1) fun y2 =>
  some y2.1

set_option maxHeartbeats 4000000 in
theorem L_spec_DrawEncodeString (a_0 : List Int) {r : ByteArray} (h : p_spec_DrawEncodeString a_0 = some r) : callL E 87 [.d (.arr (a_0.map rU))] ([] : Fo) = some (ST r, ([] : Fo)) := by
  unfold p_spec_DrawEncodeString at h
  refine callW (fu := Try.f87) rfl rfl rfl NN ?_
  intro lp cl hlp hcl
  conv => lhs; whnf
  obtain ⟨y1, h_y1, h⟩ := callK_inv h
  rw [cl_eq hcl (L_spec_l00From a_0 h_y1)]
  rotate_left
  · show _ = _; kernel_rfl
  · show _ = _; kernel_rfl
  conv => lhs; whnf
  obtain ⟨y2, h_y2, h⟩ := callK_inv h
  rw [cl_eq hcl (L_spec_l00Src_word 200 y1 h_y2)]
  rotate_left
  · show _ = _; kernel_rfl
  · show _ = _; kernel_rfl
  conv => lhs; whnf
  obtain rfl := Option.some.inj h; show _ = _; kernel_rfl


noncomputable def p_impl_EncodeString (a_0 : ByteArray) : Option ByteArray :=
  callK (p_impl_EncodeUvarint (ByteArray.size a_0 : Int)) fun y1 =>
  grd (((ByteArray.size y1 + ByteArray.size a_0 : Nat) : Int) ≤ 9223372036854775807) <|
  some (y1 ++ a_0)

set_option maxHeartbeats 4000000 in
theorem L_impl_EncodeString (a_0 : ByteArray) {r : ByteArray} (h : p_impl_EncodeString a_0 = some r) : callL E 88 [ST a_0] ([] : Fo) = some (ST r, ([] : Fo)) := by
  unfold p_impl_EncodeString at h
  refine callW (fu := Try.f88) rfl rfl rfl NN ?_
  intro lp cl hlp hcl
  conv => lhs; whnf
  obtain ⟨y1, h_y1, h⟩ := callK_inv h
  rw [cl_eq hcl (L_impl_EncodeUvarint (ByteArray.size a_0 : Int) h_y1)]
  rotate_left
  · show _ = _; kernel_rfl
  · show _ = _; kernel_rfl
  conv => lhs; whnf
  obtain ⟨hg2, h⟩ := grd_inv h
  rw [cat_run _ _ _ hg2]
  conv => lhs; whnf
  obtain rfl := Option.some.inj h; show _ = _; kernel_rfl


noncomputable def p_impl_DecodeString (a_0 : ByteArray) : Option (ByteArray × Int × Bool) :=
  callK (p_impl_DecodeUvarint a_0) fun y1 =>
  if y1.2.2 = true then
    if y1.1 > (IntKind.i64.wrap ((ByteArray.size a_0 : Int) - y1.2.1)) then
      some ((⟨#[]⟩ : ByteArray), 0, false)
    else
      grd (0 ≤ y1.2.1 ∧ y1.2.1 ≤ (IntKind.i64.wrap (y1.2.1 + y1.1)) ∧ (IntKind.i64.wrap (y1.2.1 + y1.1)) ≤ (ByteArray.size a_0 : Int)) <|
      some ((ByteArray.extract a_0 (Int.toNat y1.2.1) (Int.toNat (IntKind.i64.wrap (y1.2.1 + y1.1)))), (IntKind.i64.wrap (y1.2.1 + y1.1)), true)
  else
    some ((⟨#[]⟩ : ByteArray), 0, false)

set_option maxHeartbeats 4000000 in
theorem L_impl_DecodeString (a_0 : ByteArray) {r : (ByteArray × Int × Bool)} (h : p_impl_DecodeString a_0 = some r) : callL E 89 [ST a_0] ([] : Fo) = some (.tup [ST r.1, IN r.2.1, BO r.2.2], ([] : Fo)) := by
  unfold p_impl_DecodeString at h
  refine callW (fu := Try.f89) rfl rfl rfl NN ?_
  intro lp cl hlp hcl
  conv => lhs; whnf
  obtain ⟨y1, h_y1, h⟩ := callK_inv h
  rw [cl_eq hcl (L_impl_DecodeUvarint a_0 h_y1)]
  rotate_left
  · show _ = _; kernel_rfl
  · show _ = _; kernel_rfl
  conv => lhs; whnf
  cases hb2 : y1.2.2
  · replace h := ifF h (booF hb2); conv => lhs; whnf
    try (rw [hb2]; conv => lhs; whnf)
    try (rw [hb2]; conv => lhs; whnf)
    try (rw [hb2]; conv => lhs; whnf)
    try (rw [hb2]; conv => lhs; whnf)
    try (rw [hb2]; conv => lhs; whnf)
    try (rw [hb2]; conv => lhs; whnf)
    obtain rfl := Option.some.inj h; show _ = _; kernel_rfl

  · replace h := ifT h hb2; conv => lhs; whnf
    try (rw [hb2]; conv => lhs; whnf)
    try (rw [hb2]; conv => lhs; whnf)
    try (rw [hb2]; conv => lhs; whnf)
    try (rw [hb2]; conv => lhs; whnf)
    try (rw [hb2]; conv => lhs; whnf)
    try (rw [hb2]; conv => lhs; whnf)
    cases hb3 : (decide (y1.1 > (IntKind.i64.wrap ((ByteArray.size a_0 : Int) - y1.2.1))))
    · replace h := ifF h (decF hb3); conv => lhs; whnf
      obtain ⟨hg4, h⟩ := grd_inv h
      try (rw [decide_eq_true hg4.1]; conv => lhs; whnf)
      try (rw [decide_eq_true hg4.2.1]; conv => lhs; whnf)
      try (rw [decide_eq_true hg4.2.2])
      conv => lhs; whnf
      obtain rfl := Option.some.inj h; show _ = _; kernel_rfl

    · replace h := ifT h (decT hb3); conv => lhs; whnf
      obtain rfl := Option.some.inj h; show _ = _; kernel_rfl


noncomputable def p_impl_fixed (a_0 : Int) (a_1 : Int) : Option ByteArray :=
  grd (mkOk a_1 a_1 1 1 = true) <|
  grd ((List.replicate (Int.toNat a_1) (0 : Int)).length < 4611686018427387904) <|
  forK (List.replicate (Int.toNat a_1) (0 : Int)) (fun (i5 : Nat) x8 (v6 : List Int) (nx7 : (List Int) → Option _) =>
    grd (0 ≤ (IntKind.i64.wrap (8 * (i5 : Int)))) <|
    getK v6 (i5 : Int) fun x9 =>
    nx7 (v6.set (Int.toNat (i5 : Int)) (IntKind.u8.wrap (Int.fdiv a_0 (2 ^ (min (Int.toNat (IntKind.i64.wrap (8 * (i5 : Int)))) IntKind.i64.bits)))))) (List.replicate (Int.toNat a_1) (0 : Int)) (fun (v6 : List Int) =>
    some (bytesOf (v6.map rU)))

set_option maxHeartbeats 4000000 in
theorem L_impl_fixed (a_0 : Int) (a_1 : Int) {r : ByteArray} (h : p_impl_fixed a_0 a_1 = some r) : callL E 180 [IN a_0, IN a_1] ([] : Fo) = some (ST r, ([] : Fo)) := by
  unfold p_impl_fixed at h
  refine callW (fu := Try.f180) rfl rfl rfl NN ?_
  intro lp cl hlp hcl
  conv => lhs; whnf
  obtain ⟨hg10, h⟩ := grd_inv h
  rw [mk_eq hg10 ?h1 ?h2 ?h3 ?h4]
  case h1 => exact rfl
  case h2 => exact rfl
  case h3 => exact rfl
  case h4 => exact rfl
  conv => lhs; whnf
  first | (rw [rep_of (r := rU) (x := (0 : Int)) ?hh]; case hh => exact rfl) | skip
  try rw [len_of (l := (List.replicate (Int.toNat a_1) (0 : Int))) (r := rU)]
  obtain ⟨hl_i5, h⟩ := grd_inv h
  refine loop_for hlp (l := (List.replicate (Int.toNat a_1) (0 : Int))) hl_i5 (fun (i5 : Nat) (v6 : List Int) => ([IN a_0, .dead, .dead, .dead, .dead, .sl 0, .dead, .dead, .dead, .dead, IN ((List.replicate (Int.toNat a_1) (0 : Int)).length : Int), IN (i5 : Int)] ++ List.replicate 13 .dead : List V)) (fun (i5 : Nat) (v6 : List Int) => ([some (.arr 5 1 (v6.map rU))] : Fo)) (fun (r : ByteArray) => ((ST r : V), ([] : Fo))) ?_ ?_ (List.replicate (Int.toNat a_1) (0 : Int)) _ (fun kk => by kernel_rfl) h
  · clear h
    rintro next_nx7 nx7 i5 hi_i5 hnx7 v6 r h
    try dsimp only at h
    have hn_i5 : i5 < 4611686018427387904 := by omega
    have hx_x8 := get_map rU (List.replicate (Int.toNat a_1) (0 : Int)) i5 hi_i5
    generalize (List.replicate (Int.toNat a_1) (0 : Int))[i5] = x8 at h hx_x8
    have hd_i5 : (decide ((i5 : Int) < ((List.replicate (Int.toNat a_1) (0 : Int)).length : Int))) = true := decide_eq_true (by omega)
    conv => lhs; whnf
    rw [hd_i5]
    conv => lhs; whnf
    obtain ⟨hg11, h⟩ := grd_inv h
    try (rw [shr_run _ _ _ _ _ hg11]; conv => lhs; whnf)
    conv => lhs; whnf
    obtain ⟨x9, hq_x9, hx_x9', h⟩ := getK_inv h
    have hx_x9 := get_of (r := rU) hx_x9'
    try (rw [decide_eq_true hq_x9]; conv => lhs; whnf)
    rw [hx_x9]
    conv => lhs; whnf
    rw [hx_x9]
    conv => lhs; whnf
    first | (rw [map_set_of (r := rU) (l := v6) (x := (IntKind.u8.wrap (Int.fdiv a_0 (2 ^ (min (Int.toNat (IntKind.i64.wrap (8 * (i5 : Int)))) IntKind.i64.bits))))) ?hh]; case hh => exact rfl) | skip
    rw [wrap_nat i5 (by have := hn_i5; omega)]
    exact hnx7 _ _ _ _ (fun kk => by kernel_rfl) h
  · clear h
    rintro next_nx7 v6 r h
    try dsimp only at h
    have hd_i5 : (decide (((List.replicate (Int.toNat a_1) (0 : Int)).length : Int) < ((List.replicate (Int.toNat a_1) (0 : Int)).length : Int))) = false := decide_eq_false (by omega)
    conv => lhs; whnf
    rw [hd_i5]
    conv => lhs; whnf
    try rw [byteRows_rU]
    conv => lhs; whnf
    obtain rfl := Option.some.inj h; show _ = _; kernel_rfl


noncomputable def p_impl_EncodeFixed (a_0 : Int) (a_1 : Int) : Option ByteArray :=
  if (inR a_1 0 8) = true then
    callK (p_impl_fixed a_0 a_1) fun y2 =>
    some y2
  else
    some (⟨#[]⟩ : ByteArray)

set_option maxHeartbeats 4000000 in
theorem L_impl_EncodeFixed (a_0 : Int) (a_1 : Int) {r : ByteArray} (h : p_impl_EncodeFixed a_0 a_1 = some r) : callL E 91 [IN a_0, IN a_1] ([] : Fo) = some (ST r, ([] : Fo)) := by
  unfold p_impl_EncodeFixed at h
  refine callW (fu := Try.f91) rfl rfl rfl NN ?_
  intro lp cl hlp hcl
  conv => lhs; whnf
  rw [cl_eq hcl (L_impl_within a_1 0 8 (pl_within a_1 0 8))]
  rotate_left
  · show _ = _; kernel_rfl
  · show _ = _; kernel_rfl
  conv => lhs; whnf
  cases hb1 : (inR a_1 0 8)
  · replace h := ifF h (booF hb1); conv => lhs; whnf
    obtain rfl := Option.some.inj h; show _ = _; kernel_rfl

  · replace h := ifT h hb1; conv => lhs; whnf
    obtain ⟨y2, h_y2, h⟩ := callK_inv h
    rw [cl_eq hcl (L_impl_fixed a_0 a_1 h_y2)]
    rotate_left
    · show _ = _; kernel_rfl
    · show _ = _; kernel_rfl
    conv => lhs; whnf
    obtain rfl := Option.some.inj h; show _ = _; kernel_rfl


noncomputable def p_impl_DecodeFixed (a_0 : ByteArray) : Option Int :=
  if (ByteArray.size a_0 : Int) > 8 then
    some 0
  else
    grd ((ByteArray.size a_0 : Int) < 4611686018427387904) <|
    forI (ByteArray.size a_0 : Int) (fun (i6 : Nat) (v7 : Int) (nx8 : Int → Option _) =>
      getB a_0 (i6 : Int) fun c9 =>
      grd (0 ≤ (IntKind.i64.wrap (8 * (i6 : Int)))) <|
      nx8 (orK .i64 v7 (IntKind.i64.wrap ((IntKind.i64.wrap c9) * 2 ^ (min (Int.toNat (IntKind.i64.wrap (8 * (i6 : Int)))) IntKind.i64.bits))))) 0 (fun (v7 : Int) =>
      some v7)

set_option maxHeartbeats 4000000 in
theorem L_impl_DecodeFixed (a_0 : ByteArray) {r : Int} (h : p_impl_DecodeFixed a_0 = some r) : callL E 90 [ST a_0] ([] : Fo) = some (IN r, ([] : Fo)) := by
  unfold p_impl_DecodeFixed at h
  refine callW (fu := Try.f90) rfl rfl rfl NN ?_
  intro lp cl hlp hcl
  conv => lhs; whnf
  cases hb1 : (decide ((ByteArray.size a_0 : Int) > 8))
  · replace h := ifF h (decF hb1); conv => lhs; whnf
    obtain ⟨hl_i6, h⟩ := grd_inv h
    refine loop_forI hlp (n := (ByteArray.size a_0 : Int)) hl_i6 (fun (i6 : Nat) (v7 : Int) => ([ST a_0, .dead, .dead, IN v7, .dead, .dead, .dead, .dead, .dead, IN (ByteArray.size a_0 : Int), IN (i6 : Int)] ++ List.replicate 13 .dead : List V)) (fun (i6 : Nat) (v7 : Int) => ([] : Fo)) (fun (r : Int) => ((IN r : V), ([] : Fo))) ?_ ?_ 0 _ (fun kk => by kernel_rfl) h
    · clear h
      rintro next_nx8 nx8 i6 hi_i6 hnx8 v7 r h
      try dsimp only at h
      have hn_i6 : i6 < 4611686018427387904 := by omega
      have hd_i6 : (decide ((i6 : Int) < (ByteArray.size a_0 : Int))) = true := decide_eq_true (by omega)
      conv => lhs; whnf
      rw [hd_i6]
      conv => lhs; whnf
      obtain ⟨c9', hq_c9, hc_c9, h⟩ := getB_inv h
      try (rw [decide_eq_true hq_c9]; conv => lhs; whnf)
      rw [hc_c9]
      conv => lhs; whnf
      generalize he_c9 : (c9'.toNat : Int) = c9 at h ⊢
      conv => lhs; whnf
      obtain ⟨hg10, h⟩ := grd_inv h
      try (rw [shl_run _ _ _ _ _ hg10]; conv => lhs; whnf)
      conv => lhs; whnf
      rw [wrap_nat i6 (by have := hn_i6; omega)]
      exact hnx8 _ _ _ _ (fun kk => by kernel_rfl) h
    · clear h
      rintro next_nx8 v7 r h
      try dsimp only at h
      have hd_i6 : (decide (((Int.toNat (ByteArray.size a_0 : Int)) : Int) < (ByteArray.size a_0 : Int))) = false := decide_eq_false (by omega)
      conv => lhs; whnf
      rw [hd_i6]
      conv => lhs; whnf
      obtain rfl := Option.some.inj h; show _ = _; kernel_rfl

  · replace h := ifT h (decT hb1); conv => lhs; whnf
    obtain rfl := Option.some.inj h; show _ = _; kernel_rfl


noncomputable def p_laws_FnCodec (a_0 : List Int) (a_1 : List Int) : Option Bool :=
  callK (p_laws_b10Long a_0 a_1) fun y1 =>
  if y1 = true then
    some true
  else
    callK (p_spec_DrawEncodeUvarint a_0) fun y3 =>
    callK (p_impl_EncodeUvarint y3) fun y4 =>
    if y3 ≥ 0 then
      grd (((ByteArray.size y4 + ByteArray.size (⟨#[133, 1]⟩ : ByteArray) : Nat) : Int) ≤ 9223372036854775807) <|
      callK (p_impl_DecodeUvarint (y4 ++ (⟨#[133, 1]⟩ : ByteArray))) fun y6 =>
      if y6.2.2 = true then
        if ¬ y6.1 = y3 then
          some false
        else
          if ¬ y6.2.1 = (ByteArray.size y4 : Int) then
            some false
          else
            callK (p_spec_DrawDecodeUvarint a_1) fun y10 =>
            callK (p_impl_DecodeUvarint y10) fun y11 =>
            if y11.2.2 = true then
              if y11.2.1 < 1 then
                some false
              else
                if y11.2.1 > (ByteArray.size y10 : Int) then
                  some false
                else
                  callK (p_impl_EncodeUvarint y11.1) fun y15 =>
                  grd (0 ≤ 0 ∧ 0 ≤ y11.2.1 ∧ y11.2.1 ≤ (ByteArray.size y10 : Int)) <|
                  if (y15.toList == (ByteArray.extract y10 (Int.toNat 0) (Int.toNat y11.2.1)).toList) = true then
                    callK (p_spec_DrawEncodeString a_1) fun y17 =>
                    callK (p_impl_EncodeString y17) fun y18 =>
                    grd (((ByteArray.size y18 + ByteArray.size (⟨#[122]⟩ : ByteArray) : Nat) : Int) ≤ 9223372036854775807) <|
                    callK (p_impl_DecodeString (y18 ++ (⟨#[122]⟩ : ByteArray))) fun y19 =>
                    if y19.2.2 = true then
                      if (y19.1.toList == y17.toList) = true then
                        if y19.2.1 = (ByteArray.size y18 : Int) then
                          callK (p_impl_EncodeFixed y3 8) fun y23 =>
                          callK (p_impl_DecodeFixed y23) fun y24 =>
                          some (y24 == y3)
                        else
                          some false
                      else
                        some false
                    else
                      some false
                  else
                    some false
            else
              callK (p_spec_DrawEncodeString a_1) fun y25 =>
              callK (p_impl_EncodeString y25) fun y26 =>
              grd (((ByteArray.size y26 + ByteArray.size (⟨#[122]⟩ : ByteArray) : Nat) : Int) ≤ 9223372036854775807) <|
              callK (p_impl_DecodeString (y26 ++ (⟨#[122]⟩ : ByteArray))) fun y27 =>
              if y27.2.2 = true then
                if (y27.1.toList == y25.toList) = true then
                  if y27.2.1 = (ByteArray.size y26 : Int) then
                    callK (p_impl_EncodeFixed y3 8) fun y31 =>
                    callK (p_impl_DecodeFixed y31) fun y32 =>
                    some (y32 == y3)
                  else
                    some false
                else
                  some false
              else
                some false
      else
        some false
    else
      callK (p_spec_DrawDecodeUvarint a_1) fun y33 =>
      callK (p_impl_DecodeUvarint y33) fun y34 =>
      if y34.2.2 = true then
        if y34.2.1 < 1 then
          some false
        else
          if y34.2.1 > (ByteArray.size y33 : Int) then
            some false
          else
            callK (p_impl_EncodeUvarint y34.1) fun y38 =>
            grd (0 ≤ 0 ∧ 0 ≤ y34.2.1 ∧ y34.2.1 ≤ (ByteArray.size y33 : Int)) <|
            if (y38.toList == (ByteArray.extract y33 (Int.toNat 0) (Int.toNat y34.2.1)).toList) = true then
              callK (p_spec_DrawEncodeString a_1) fun y40 =>
              callK (p_impl_EncodeString y40) fun y41 =>
              grd (((ByteArray.size y41 + ByteArray.size (⟨#[122]⟩ : ByteArray) : Nat) : Int) ≤ 9223372036854775807) <|
              callK (p_impl_DecodeString (y41 ++ (⟨#[122]⟩ : ByteArray))) fun y42 =>
              if y42.2.2 = true then
                if (y42.1.toList == y40.toList) = true then
                  if y42.2.1 = (ByteArray.size y41 : Int) then
                    callK (p_impl_EncodeFixed y3 8) fun y46 =>
                    callK (p_impl_DecodeFixed y46) fun y47 =>
                    some (y47 == y3)
                  else
                    some false
                else
                  some false
              else
                some false
            else
              some false
      else
        callK (p_spec_DrawEncodeString a_1) fun y48 =>
        callK (p_impl_EncodeString y48) fun y49 =>
        grd (((ByteArray.size y49 + ByteArray.size (⟨#[122]⟩ : ByteArray) : Nat) : Int) ≤ 9223372036854775807) <|
        callK (p_impl_DecodeString (y49 ++ (⟨#[122]⟩ : ByteArray))) fun y50 =>
        if y50.2.2 = true then
          if (y50.1.toList == y48.toList) = true then
            if y50.2.1 = (ByteArray.size y49 : Int) then
              callK (p_impl_EncodeFixed y3 8) fun y54 =>
              callK (p_impl_DecodeFixed y54) fun y55 =>
              some (y55 == y3)
            else
              some false
          else
            some false
        else
          some false

set_option maxHeartbeats 4000000 in
theorem L_laws_FnCodec (a_0 : List Int) (a_1 : List Int) {r : Bool} (h : p_laws_FnCodec a_0 a_1 = some r) : callL E 13 [.d (.arr (a_0.map rU)), .d (.arr (a_1.map rU))] ([] : Fo) = some (BO r, ([] : Fo)) := by
  unfold p_laws_FnCodec at h
  refine callW (fu := Try.f13) rfl rfl rfl NN ?_
  intro lp cl hlp hcl
  conv => lhs; whnf
  obtain ⟨y1, h_y1, h⟩ := callK_inv h
  rw [cl_eq hcl (L_laws_b10Long a_0 a_1 h_y1)]
  rotate_left
  · show _ = _; kernel_rfl
  · show _ = _; kernel_rfl
  conv => lhs; whnf
  cases hb2 : y1
  · replace h := ifF h (booF hb2)
    try rw [hb2] at h
    conv => lhs; whnf
    obtain ⟨y3, h_y3, h⟩ := callK_inv h
    rw [cl_eq hcl (L_spec_DrawEncodeUvarint a_0 h_y3)]
    rotate_left
    · show _ = _; kernel_rfl
    · show _ = _; kernel_rfl
    conv => lhs; whnf
    obtain ⟨y4, h_y4, h⟩ := callK_inv h
    rw [cl_eq hcl (L_impl_EncodeUvarint y3 h_y4)]
    rotate_left
    · show _ = _; kernel_rfl
    · show _ = _; kernel_rfl
    conv => lhs; whnf
    cases hb5 : (decide (y3 ≥ 0))
    · replace h := ifF h (decF hb5); conv => lhs; whnf
      obtain ⟨y33, h_y33, h⟩ := callK_inv h
      rw [cl_eq hcl (L_spec_DrawDecodeUvarint a_1 h_y33)]
      rotate_left
      · show _ = _; kernel_rfl
      · show _ = _; kernel_rfl
      conv => lhs; whnf
      obtain ⟨y34, h_y34, h⟩ := callK_inv h
      rw [cl_eq hcl (L_impl_DecodeUvarint y33 h_y34)]
      rotate_left
      · show _ = _; kernel_rfl
      · show _ = _; kernel_rfl
      conv => lhs; whnf
      cases hb35 : y34.2.2
      · replace h := ifF h (booF hb35); conv => lhs; whnf
        try (rw [hb35]; conv => lhs; whnf)
        try (rw [hb35]; conv => lhs; whnf)
        try (rw [hb35]; conv => lhs; whnf)
        try (rw [hb35]; conv => lhs; whnf)
        try (rw [hb35]; conv => lhs; whnf)
        try (rw [hb35]; conv => lhs; whnf)
        obtain ⟨y48, h_y48, h⟩ := callK_inv h
        rw [cl_eq hcl (L_spec_DrawEncodeString a_1 h_y48)]
        rotate_left
        · show _ = _; kernel_rfl
        · show _ = _; kernel_rfl
        conv => lhs; whnf
        obtain ⟨y49, h_y49, h⟩ := callK_inv h
        rw [cl_eq hcl (L_impl_EncodeString y48 h_y49)]
        rotate_left
        · show _ = _; kernel_rfl
        · show _ = _; kernel_rfl
        conv => lhs; whnf
        obtain ⟨hg56, h⟩ := grd_inv h
        rw [cat_run _ _ _ hg56]
        conv => lhs; whnf
        obtain ⟨y50, h_y50, h⟩ := callK_inv h
        rw [cl_eq hcl (L_impl_DecodeString (y49 ++ (⟨#[122]⟩ : ByteArray)) h_y50)]
        rotate_left
        · show _ = _; kernel_rfl
        · show _ = _; kernel_rfl
        conv => lhs; whnf
        cases hb51 : y50.2.2
        · replace h := ifF h (booF hb51); conv => lhs; whnf
          try (rw [hb51]; conv => lhs; whnf)
          try (rw [hb51]; conv => lhs; whnf)
          try (rw [hb51]; conv => lhs; whnf)
          obtain rfl := Option.some.inj h; show _ = _; kernel_rfl

        · replace h := ifT h hb51; conv => lhs; whnf
          try (rw [hb51]; conv => lhs; whnf)
          try (rw [hb51]; conv => lhs; whnf)
          try (rw [hb51]; conv => lhs; whnf)
          cases hb52 : (y50.1.toList == y48.toList)
          · replace h := ifF h (booF hb52); conv => lhs; whnf
            try (rw [hb52]; conv => lhs; whnf)
            try (rw [hb52]; conv => lhs; whnf)
            try (rw [hb52]; conv => lhs; whnf)
            try (rw [hb52]; conv => lhs; whnf)
            obtain rfl := Option.some.inj h; show _ = _; kernel_rfl

          · replace h := ifT h hb52; conv => lhs; whnf
            try (rw [hb52]; conv => lhs; whnf)
            try (rw [hb52]; conv => lhs; whnf)
            try (rw [hb52]; conv => lhs; whnf)
            try (rw [hb52]; conv => lhs; whnf)
            cases hb53 : (y50.2.1 == (ByteArray.size y49 : Int))
            · replace h := ifF h (beqF hb53); conv => lhs; whnf
              try (rw [hb53]; conv => lhs; whnf)
              try (rw [hb53]; conv => lhs; whnf)
              try (rw [hb53]; conv => lhs; whnf)
              try (rw [hb53]; conv => lhs; whnf)
              try (rw [hb53]; conv => lhs; whnf)
              obtain rfl := Option.some.inj h; show _ = _; kernel_rfl

            · replace h := ifT h (beqT hb53); conv => lhs; whnf
              try (rw [hb53]; conv => lhs; whnf)
              obtain ⟨y54, h_y54, h⟩ := callK_inv h
              rw [cl_eq hcl (L_impl_EncodeFixed y3 8 h_y54)]
              rotate_left
              · show _ = _; kernel_rfl
              · show _ = _; kernel_rfl
              conv => lhs; whnf
              try (rw [hb53]; conv => lhs; whnf)
              obtain ⟨y55, h_y55, h⟩ := callK_inv h
              rw [cl_eq hcl (L_impl_DecodeFixed y54 h_y55)]
              rotate_left
              · show _ = _; kernel_rfl
              · show _ = _; kernel_rfl
              conv => lhs; whnf
              try (rw [hb53]; conv => lhs; whnf)
              try (rw [hb53]; conv => lhs; whnf)
              try (rw [hb53]; conv => lhs; whnf)
              obtain rfl := Option.some.inj h; show _ = _; kernel_rfl

      · replace h := ifT h hb35; conv => lhs; whnf
        try (rw [hb35]; conv => lhs; whnf)
        try (rw [hb35]; conv => lhs; whnf)
        cases hb36 : (decide (y34.2.1 < 1))
        · replace h := ifF h (decF hb36); conv => lhs; whnf
          try (rw [hb36]; conv => lhs; whnf)
          try (rw [hb36]; conv => lhs; whnf)
          try (rw [hb36]; conv => lhs; whnf)
          try (rw [hb35]; conv => lhs; whnf)
          try (rw [hb36]; conv => lhs; whnf)
          try (rw [hb35]; conv => lhs; whnf)
          cases hb37 : (decide (y34.2.1 > (ByteArray.size y33 : Int)))
          · replace h := ifF h (decF hb37); conv => lhs; whnf
            try (rw [hb37]; conv => lhs; whnf)
            obtain ⟨y38, h_y38, h⟩ := callK_inv h
            rw [cl_eq hcl (L_impl_EncodeUvarint y34.1 h_y38)]
            rotate_left
            · show _ = _; kernel_rfl
            · show _ = _; kernel_rfl
            conv => lhs; whnf
            try (rw [hb37]; conv => lhs; whnf)
            try (rw [hb37]; conv => lhs; whnf)
            try (rw [hb37]; conv => lhs; whnf)
            obtain ⟨hg57, h⟩ := grd_inv h
            try (rw [decide_eq_true hg57.1]; conv => lhs; whnf)
            try (rw [decide_eq_true hg57.2.1]; conv => lhs; whnf)
            try (rw [decide_eq_true hg57.2.2])
            conv => lhs; whnf
            try (rw [hb37]; conv => lhs; whnf)
            try (rw [hb35]; conv => lhs; whnf)
            try (rw [hb37]; conv => lhs; whnf)
            try (rw [hb35]; conv => lhs; whnf)
            cases hb39 : (y38.toList == (ByteArray.extract y33 (Int.toNat 0) (Int.toNat y34.2.1)).toList)
            · replace h := ifF h (booF hb39); conv => lhs; whnf
              obtain rfl := Option.some.inj h; show _ = _; kernel_rfl

            · replace h := ifT h hb39; conv => lhs; whnf
              obtain ⟨y40, h_y40, h⟩ := callK_inv h
              rw [cl_eq hcl (L_spec_DrawEncodeString a_1 h_y40)]
              rotate_left
              · show _ = _; kernel_rfl
              · show _ = _; kernel_rfl
              conv => lhs; whnf
              obtain ⟨y41, h_y41, h⟩ := callK_inv h
              rw [cl_eq hcl (L_impl_EncodeString y40 h_y41)]
              rotate_left
              · show _ = _; kernel_rfl
              · show _ = _; kernel_rfl
              conv => lhs; whnf
              obtain ⟨hg58, h⟩ := grd_inv h
              rw [cat_run _ _ _ hg58]
              conv => lhs; whnf
              obtain ⟨y42, h_y42, h⟩ := callK_inv h
              rw [cl_eq hcl (L_impl_DecodeString (y41 ++ (⟨#[122]⟩ : ByteArray)) h_y42)]
              rotate_left
              · show _ = _; kernel_rfl
              · show _ = _; kernel_rfl
              conv => lhs; whnf
              cases hb43 : y42.2.2
              · replace h := ifF h (booF hb43); conv => lhs; whnf
                try (rw [hb43]; conv => lhs; whnf)
                try (rw [hb43]; conv => lhs; whnf)
                try (rw [hb43]; conv => lhs; whnf)
                obtain rfl := Option.some.inj h; show _ = _; kernel_rfl

              · replace h := ifT h hb43; conv => lhs; whnf
                try (rw [hb43]; conv => lhs; whnf)
                try (rw [hb43]; conv => lhs; whnf)
                try (rw [hb43]; conv => lhs; whnf)
                cases hb44 : (y42.1.toList == y40.toList)
                · replace h := ifF h (booF hb44); conv => lhs; whnf
                  try (rw [hb44]; conv => lhs; whnf)
                  try (rw [hb44]; conv => lhs; whnf)
                  try (rw [hb44]; conv => lhs; whnf)
                  try (rw [hb44]; conv => lhs; whnf)
                  obtain rfl := Option.some.inj h; show _ = _; kernel_rfl

                · replace h := ifT h hb44; conv => lhs; whnf
                  try (rw [hb44]; conv => lhs; whnf)
                  try (rw [hb44]; conv => lhs; whnf)
                  try (rw [hb44]; conv => lhs; whnf)
                  try (rw [hb44]; conv => lhs; whnf)
                  cases hb45 : (y42.2.1 == (ByteArray.size y41 : Int))
                  · replace h := ifF h (beqF hb45); conv => lhs; whnf
                    try (rw [hb45]; conv => lhs; whnf)
                    try (rw [hb45]; conv => lhs; whnf)
                    try (rw [hb45]; conv => lhs; whnf)
                    try (rw [hb45]; conv => lhs; whnf)
                    try (rw [hb45]; conv => lhs; whnf)
                    obtain rfl := Option.some.inj h; show _ = _; kernel_rfl

                  · replace h := ifT h (beqT hb45); conv => lhs; whnf
                    try (rw [hb45]; conv => lhs; whnf)
                    obtain ⟨y46, h_y46, h⟩ := callK_inv h
                    rw [cl_eq hcl (L_impl_EncodeFixed y3 8 h_y46)]
                    rotate_left
                    · show _ = _; kernel_rfl
                    · show _ = _; kernel_rfl
                    conv => lhs; whnf
                    try (rw [hb45]; conv => lhs; whnf)
                    obtain ⟨y47, h_y47, h⟩ := callK_inv h
                    rw [cl_eq hcl (L_impl_DecodeFixed y46 h_y47)]
                    rotate_left
                    · show _ = _; kernel_rfl
                    · show _ = _; kernel_rfl
                    conv => lhs; whnf
                    try (rw [hb45]; conv => lhs; whnf)
                    try (rw [hb45]; conv => lhs; whnf)
                    try (rw [hb45]; conv => lhs; whnf)
                    obtain rfl := Option.some.inj h; show _ = _; kernel_rfl

          · replace h := ifT h (decT hb37); conv => lhs; whnf
            try (rw [hb37]; conv => lhs; whnf)
            try (rw [hb37]; conv => lhs; whnf)
            try (rw [hb37]; conv => lhs; whnf)
            try (rw [hb37]; conv => lhs; whnf)
            try (rw [hb37]; conv => lhs; whnf)
            try (rw [hb35]; conv => lhs; whnf)
            try (rw [hb37]; conv => lhs; whnf)
            try (rw [hb35]; conv => lhs; whnf)
            obtain rfl := Option.some.inj h; show _ = _; kernel_rfl

        · replace h := ifT h (decT hb36); conv => lhs; whnf
          try (rw [hb36]; conv => lhs; whnf)
          try (rw [hb36]; conv => lhs; whnf)
          try (rw [hb36]; conv => lhs; whnf)
          try (rw [hb35]; conv => lhs; whnf)
          try (rw [hb36]; conv => lhs; whnf)
          try (rw [hb35]; conv => lhs; whnf)
          try (rw [hb35]; conv => lhs; whnf)
          try (rw [hb35]; conv => lhs; whnf)
          obtain rfl := Option.some.inj h; show _ = _; kernel_rfl

    · replace h := ifT h (decT hb5); conv => lhs; whnf
      obtain ⟨hg59, h⟩ := grd_inv h
      rw [cat_run _ _ _ hg59]
      conv => lhs; whnf
      obtain ⟨y6, h_y6, h⟩ := callK_inv h
      rw [cl_eq hcl (L_impl_DecodeUvarint (y4 ++ (⟨#[133, 1]⟩ : ByteArray)) h_y6)]
      rotate_left
      · show _ = _; kernel_rfl
      · show _ = _; kernel_rfl
      conv => lhs; whnf
      cases hb7 : y6.2.2
      · replace h := ifF h (booF hb7); conv => lhs; whnf
        try (rw [hb7]; conv => lhs; whnf)
        try (rw [hb7]; conv => lhs; whnf)
        try (rw [hb7]; conv => lhs; whnf)
        obtain rfl := Option.some.inj h; show _ = _; kernel_rfl

      · replace h := ifT h hb7; conv => lhs; whnf
        try (rw [hb7]; conv => lhs; whnf)
        try (rw [hb7]; conv => lhs; whnf)
        try (rw [hb7]; conv => lhs; whnf)
        cases hb8 : (y6.1 != y3)
        · replace h := ifF h ((fun h => not_not_intro (bneF h)) hb8); conv => lhs; whnf
          try (rw [hb8]; conv => lhs; whnf)
          try (rw [hb8]; conv => lhs; whnf)
          try (rw [hb8]; conv => lhs; whnf)
          try (rw [hb8]; conv => lhs; whnf)
          cases hb9 : (y6.2.1 != (ByteArray.size y4 : Int))
          · replace h := ifF h ((fun h => not_not_intro (bneF h)) hb9); conv => lhs; whnf
            obtain ⟨y10, h_y10, h⟩ := callK_inv h
            rw [cl_eq hcl (L_spec_DrawDecodeUvarint a_1 h_y10)]
            rotate_left
            · show _ = _; kernel_rfl
            · show _ = _; kernel_rfl
            conv => lhs; whnf
            obtain ⟨y11, h_y11, h⟩ := callK_inv h
            rw [cl_eq hcl (L_impl_DecodeUvarint y10 h_y11)]
            rotate_left
            · show _ = _; kernel_rfl
            · show _ = _; kernel_rfl
            conv => lhs; whnf
            cases hb12 : y11.2.2
            · replace h := ifF h (booF hb12); conv => lhs; whnf
              try (rw [hb12]; conv => lhs; whnf)
              try (rw [hb12]; conv => lhs; whnf)
              try (rw [hb12]; conv => lhs; whnf)
              try (rw [hb12]; conv => lhs; whnf)
              try (rw [hb12]; conv => lhs; whnf)
              try (rw [hb12]; conv => lhs; whnf)
              obtain ⟨y25, h_y25, h⟩ := callK_inv h
              rw [cl_eq hcl (L_spec_DrawEncodeString a_1 h_y25)]
              rotate_left
              · show _ = _; kernel_rfl
              · show _ = _; kernel_rfl
              conv => lhs; whnf
              obtain ⟨y26, h_y26, h⟩ := callK_inv h
              rw [cl_eq hcl (L_impl_EncodeString y25 h_y26)]
              rotate_left
              · show _ = _; kernel_rfl
              · show _ = _; kernel_rfl
              conv => lhs; whnf
              obtain ⟨hg60, h⟩ := grd_inv h
              rw [cat_run _ _ _ hg60]
              conv => lhs; whnf
              obtain ⟨y27, h_y27, h⟩ := callK_inv h
              rw [cl_eq hcl (L_impl_DecodeString (y26 ++ (⟨#[122]⟩ : ByteArray)) h_y27)]
              rotate_left
              · show _ = _; kernel_rfl
              · show _ = _; kernel_rfl
              conv => lhs; whnf
              cases hb28 : y27.2.2
              · replace h := ifF h (booF hb28); conv => lhs; whnf
                try (rw [hb28]; conv => lhs; whnf)
                try (rw [hb28]; conv => lhs; whnf)
                try (rw [hb28]; conv => lhs; whnf)
                obtain rfl := Option.some.inj h; show _ = _; kernel_rfl

              · replace h := ifT h hb28; conv => lhs; whnf
                try (rw [hb28]; conv => lhs; whnf)
                try (rw [hb28]; conv => lhs; whnf)
                try (rw [hb28]; conv => lhs; whnf)
                cases hb29 : (y27.1.toList == y25.toList)
                · replace h := ifF h (booF hb29); conv => lhs; whnf
                  try (rw [hb29]; conv => lhs; whnf)
                  try (rw [hb29]; conv => lhs; whnf)
                  try (rw [hb29]; conv => lhs; whnf)
                  try (rw [hb29]; conv => lhs; whnf)
                  obtain rfl := Option.some.inj h; show _ = _; kernel_rfl

                · replace h := ifT h hb29; conv => lhs; whnf
                  try (rw [hb29]; conv => lhs; whnf)
                  try (rw [hb29]; conv => lhs; whnf)
                  try (rw [hb29]; conv => lhs; whnf)
                  try (rw [hb29]; conv => lhs; whnf)
                  cases hb30 : (y27.2.1 == (ByteArray.size y26 : Int))
                  · replace h := ifF h (beqF hb30); conv => lhs; whnf
                    try (rw [hb30]; conv => lhs; whnf)
                    try (rw [hb30]; conv => lhs; whnf)
                    try (rw [hb30]; conv => lhs; whnf)
                    try (rw [hb30]; conv => lhs; whnf)
                    try (rw [hb30]; conv => lhs; whnf)
                    obtain rfl := Option.some.inj h; show _ = _; kernel_rfl

                  · replace h := ifT h (beqT hb30); conv => lhs; whnf
                    try (rw [hb30]; conv => lhs; whnf)
                    obtain ⟨y31, h_y31, h⟩ := callK_inv h
                    rw [cl_eq hcl (L_impl_EncodeFixed y3 8 h_y31)]
                    rotate_left
                    · show _ = _; kernel_rfl
                    · show _ = _; kernel_rfl
                    conv => lhs; whnf
                    try (rw [hb30]; conv => lhs; whnf)
                    obtain ⟨y32, h_y32, h⟩ := callK_inv h
                    rw [cl_eq hcl (L_impl_DecodeFixed y31 h_y32)]
                    rotate_left
                    · show _ = _; kernel_rfl
                    · show _ = _; kernel_rfl
                    conv => lhs; whnf
                    try (rw [hb30]; conv => lhs; whnf)
                    try (rw [hb30]; conv => lhs; whnf)
                    try (rw [hb30]; conv => lhs; whnf)
                    obtain rfl := Option.some.inj h; show _ = _; kernel_rfl

            · replace h := ifT h hb12; conv => lhs; whnf
              try (rw [hb12]; conv => lhs; whnf)
              try (rw [hb12]; conv => lhs; whnf)
              cases hb13 : (decide (y11.2.1 < 1))
              · replace h := ifF h (decF hb13); conv => lhs; whnf
                try (rw [hb13]; conv => lhs; whnf)
                try (rw [hb13]; conv => lhs; whnf)
                try (rw [hb13]; conv => lhs; whnf)
                try (rw [hb12]; conv => lhs; whnf)
                try (rw [hb13]; conv => lhs; whnf)
                try (rw [hb12]; conv => lhs; whnf)
                cases hb14 : (decide (y11.2.1 > (ByteArray.size y10 : Int)))
                · replace h := ifF h (decF hb14); conv => lhs; whnf
                  try (rw [hb14]; conv => lhs; whnf)
                  obtain ⟨y15, h_y15, h⟩ := callK_inv h
                  rw [cl_eq hcl (L_impl_EncodeUvarint y11.1 h_y15)]
                  rotate_left
                  · show _ = _; kernel_rfl
                  · show _ = _; kernel_rfl
                  conv => lhs; whnf
                  try (rw [hb14]; conv => lhs; whnf)
                  try (rw [hb14]; conv => lhs; whnf)
                  try (rw [hb14]; conv => lhs; whnf)
                  obtain ⟨hg61, h⟩ := grd_inv h
                  try (rw [decide_eq_true hg61.1]; conv => lhs; whnf)
                  try (rw [decide_eq_true hg61.2.1]; conv => lhs; whnf)
                  try (rw [decide_eq_true hg61.2.2])
                  conv => lhs; whnf
                  try (rw [hb14]; conv => lhs; whnf)
                  try (rw [hb12]; conv => lhs; whnf)
                  try (rw [hb14]; conv => lhs; whnf)
                  try (rw [hb12]; conv => lhs; whnf)
                  cases hb16 : (y15.toList == (ByteArray.extract y10 (Int.toNat 0) (Int.toNat y11.2.1)).toList)
                  · replace h := ifF h (booF hb16); conv => lhs; whnf
                    obtain rfl := Option.some.inj h; show _ = _; kernel_rfl

                  · replace h := ifT h hb16; conv => lhs; whnf
                    obtain ⟨y17, h_y17, h⟩ := callK_inv h
                    rw [cl_eq hcl (L_spec_DrawEncodeString a_1 h_y17)]
                    rotate_left
                    · show _ = _; kernel_rfl
                    · show _ = _; kernel_rfl
                    conv => lhs; whnf
                    obtain ⟨y18, h_y18, h⟩ := callK_inv h
                    rw [cl_eq hcl (L_impl_EncodeString y17 h_y18)]
                    rotate_left
                    · show _ = _; kernel_rfl
                    · show _ = _; kernel_rfl
                    conv => lhs; whnf
                    obtain ⟨hg62, h⟩ := grd_inv h
                    rw [cat_run _ _ _ hg62]
                    conv => lhs; whnf
                    obtain ⟨y19, h_y19, h⟩ := callK_inv h
                    rw [cl_eq hcl (L_impl_DecodeString (y18 ++ (⟨#[122]⟩ : ByteArray)) h_y19)]
                    rotate_left
                    · show _ = _; kernel_rfl
                    · show _ = _; kernel_rfl
                    conv => lhs; whnf
                    cases hb20 : y19.2.2
                    · replace h := ifF h (booF hb20); conv => lhs; whnf
                      try (rw [hb20]; conv => lhs; whnf)
                      try (rw [hb20]; conv => lhs; whnf)
                      try (rw [hb20]; conv => lhs; whnf)
                      obtain rfl := Option.some.inj h; show _ = _; kernel_rfl

                    · replace h := ifT h hb20; conv => lhs; whnf
                      try (rw [hb20]; conv => lhs; whnf)
                      try (rw [hb20]; conv => lhs; whnf)
                      try (rw [hb20]; conv => lhs; whnf)
                      cases hb21 : (y19.1.toList == y17.toList)
                      · replace h := ifF h (booF hb21); conv => lhs; whnf
                        try (rw [hb21]; conv => lhs; whnf)
                        try (rw [hb21]; conv => lhs; whnf)
                        try (rw [hb21]; conv => lhs; whnf)
                        try (rw [hb21]; conv => lhs; whnf)
                        obtain rfl := Option.some.inj h; show _ = _; kernel_rfl

                      · replace h := ifT h hb21; conv => lhs; whnf
                        try (rw [hb21]; conv => lhs; whnf)
                        try (rw [hb21]; conv => lhs; whnf)
                        try (rw [hb21]; conv => lhs; whnf)
                        try (rw [hb21]; conv => lhs; whnf)
                        cases hb22 : (y19.2.1 == (ByteArray.size y18 : Int))
                        · replace h := ifF h (beqF hb22); conv => lhs; whnf
                          try (rw [hb22]; conv => lhs; whnf)
                          try (rw [hb22]; conv => lhs; whnf)
                          try (rw [hb22]; conv => lhs; whnf)
                          try (rw [hb22]; conv => lhs; whnf)
                          try (rw [hb22]; conv => lhs; whnf)
                          obtain rfl := Option.some.inj h; show _ = _; kernel_rfl

                        · replace h := ifT h (beqT hb22); conv => lhs; whnf
                          try (rw [hb22]; conv => lhs; whnf)
                          obtain ⟨y23, h_y23, h⟩ := callK_inv h
                          rw [cl_eq hcl (L_impl_EncodeFixed y3 8 h_y23)]
                          rotate_left
                          · show _ = _; kernel_rfl
                          · show _ = _; kernel_rfl
                          conv => lhs; whnf
                          try (rw [hb22]; conv => lhs; whnf)
                          obtain ⟨y24, h_y24, h⟩ := callK_inv h
                          rw [cl_eq hcl (L_impl_DecodeFixed y23 h_y24)]
                          rotate_left
                          · show _ = _; kernel_rfl
                          · show _ = _; kernel_rfl
                          conv => lhs; whnf
                          try (rw [hb22]; conv => lhs; whnf)
                          try (rw [hb22]; conv => lhs; whnf)
                          try (rw [hb22]; conv => lhs; whnf)
                          obtain rfl := Option.some.inj h; show _ = _; kernel_rfl

                · replace h := ifT h (decT hb14); conv => lhs; whnf
                  try (rw [hb14]; conv => lhs; whnf)
                  try (rw [hb14]; conv => lhs; whnf)
                  try (rw [hb14]; conv => lhs; whnf)
                  try (rw [hb14]; conv => lhs; whnf)
                  try (rw [hb14]; conv => lhs; whnf)
                  try (rw [hb12]; conv => lhs; whnf)
                  try (rw [hb14]; conv => lhs; whnf)
                  try (rw [hb12]; conv => lhs; whnf)
                  obtain rfl := Option.some.inj h; show _ = _; kernel_rfl

              · replace h := ifT h (decT hb13); conv => lhs; whnf
                try (rw [hb13]; conv => lhs; whnf)
                try (rw [hb13]; conv => lhs; whnf)
                try (rw [hb13]; conv => lhs; whnf)
                try (rw [hb12]; conv => lhs; whnf)
                try (rw [hb13]; conv => lhs; whnf)
                try (rw [hb12]; conv => lhs; whnf)
                try (rw [hb12]; conv => lhs; whnf)
                try (rw [hb12]; conv => lhs; whnf)
                obtain rfl := Option.some.inj h; show _ = _; kernel_rfl

          · replace h := ifT h (bneT hb9); conv => lhs; whnf
            obtain rfl := Option.some.inj h; show _ = _; kernel_rfl

        · replace h := ifT h (bneT hb8); conv => lhs; whnf
          try (rw [hb8]; conv => lhs; whnf)
          try (rw [hb8]; conv => lhs; whnf)
          try (rw [hb8]; conv => lhs; whnf)
          try (rw [hb8]; conv => lhs; whnf)
          obtain rfl := Option.some.inj h; show _ = _; kernel_rfl

  · replace h := ifT h hb2; conv => lhs; whnf
    obtain rfl := Option.some.inj h; show _ = _; kernel_rfl

/-! ### Numbers in base 128 -/
theorem orK_nat (a b : Nat) (h : a ||| b < 9223372036854775808) : orK .i64 (a : Int) (b : Int) = ((a ||| b : Nat) : Int) := by
  have ha : a ≤ a ||| b := Nat.left_le_or
  have hb : b ≤ a ||| b := Nat.right_le_or
  have e : orK .i64 (a : Int) (b : Int) = IntKind.i64.wrap ((a ||| b : Nat) : Int) := by
    show IntKind.i64.wrap (((BitVec.ofInt 64 (a : Int) ||| BitVec.ofInt 64 (b : Int)).toNat : Nat) : Int) = _
    rw [BitVec.ofInt_natCast, BitVec.ofInt_natCast, BitVec.toNat_or, BitVec.toNat_ofNat, BitVec.toNat_ofNat, Nat.mod_eq_of_lt (by omega), Nat.mod_eq_of_lt (by omega)]
  rw [e]
  unfold IntKind.wrap
  simp [IntKind.signed, IntKind.bits]
  omega
theorem andK_nat (a b : Nat) (ha : a < 9223372036854775808) (hb : b < 9223372036854775808) : andK .i64 (a : Int) (b : Int) = ((a &&& b : Nat) : Int) := by
  have hab : a &&& b ≤ a := Nat.and_le_left
  have e : andK .i64 (a : Int) (b : Int) = IntKind.i64.wrap ((a &&& b : Nat) : Int) := by
    show IntKind.i64.wrap (((BitVec.ofInt 64 (a : Int) &&& BitVec.ofInt 64 (b : Int)).toNat : Nat) : Int) = _
    rw [BitVec.ofInt_natCast, BitVec.ofInt_natCast, BitVec.toNat_and, BitVec.toNat_ofNat, BitVec.toNat_ofNat, Nat.mod_eq_of_lt (by omega), Nat.mod_eq_of_lt (by omega)]
  rw [e]
  unfold IntKind.wrap
  simp [IntKind.signed, IntKind.bits]
  omega
theorem or_digit {a c i : Nat} (ha : a < 2 ^ i) : a ||| c * 2 ^ i = a + c * 2 ^ i := by
  have := Nat.two_pow_add_eq_or_of_lt ha c
  rw [Nat.mul_comm c, Nat.or_comm, ← this, Nat.add_comm]
def enc (n : Nat) : List UInt8 := if h : n < 128 then [UInt8.ofNat n] else UInt8.ofNat (n % 128 + 128) :: enc (n / 128)
termination_by n
theorem enc_lo {n : Nat} (h : n < 128) : enc n = [UInt8.ofNat n] := by rw [enc, dif_pos h]
theorem enc_hi {n : Nat} (h : ¬ n < 128) : enc n = UInt8.ofNat (n % 128 + 128) :: enc (n / 128) := by rw [enc, dif_neg h]
def decN : Nat → Bool → List UInt8 → Option (Nat × Nat)
  | 0, _, _ => none
  | _ + 1, _, [] => none
  | k + 1, first, b :: l => if b.toNat < 128 then (if first = false ∧ b.toNat = 0 then none else some (b.toNat, 1)) else match decN k false l with
    | some (v, m) => some (b.toNat % 128 + 128 * v, m + 1)
    | none => none
theorem u8_of (n : Nat) (h : n < 256) : (UInt8.ofNat n).toNat = n := by simp; omega
theorem u8_eq {a : UInt8} {n : Nat} (h : a.toNat = n) : UInt8.ofNat n = a := by rw [← h]; simp
theorem enc_dec : ∀ {k : Nat} {f : Bool} {l : List UInt8} {v m : Nat}, decN k f l = some (v, m) → (f = true ∨ v ≠ 0) ∧ enc v = l.take m ∧ 1 ≤ m ∧ m ≤ l.length ∧ m ≤ k ∧ v < 128 ^ k
  | 0, _, _, _, _, h => by simp [decN] at h
  | _ + 1, _, [], _, _, h => by simp [decN] at h
  | k + 1, f, b :: l, v, m, h => by
    have hb := b.toNat_lt
    unfold decN at h
    split at h
    · rename_i hlt
      split at h
      · simp at h
      · rename_i hz
        simp only [Option.some.injEq, Prod.mk.injEq] at h
        obtain ⟨rfl, rfl⟩ := h
        refine ⟨?_, by rw [enc_lo hlt]; simp, Nat.le_refl _, by simp, by omega, ?_⟩
        · cases f
          · exact .inr fun h0 => hz ⟨rfl, h0⟩
          · exact .inl rfl
        · have : 128 ^ 1 ≤ 128 ^ (k + 1) := Nat.pow_le_pow_right (by omega) (by omega)
          omega
    · rename_i hlt
      split at h
      · rename_i v' m' h'
        simp only [Option.some.injEq, Prod.mk.injEq] at h
        obtain ⟨rfl, rfl⟩ := h
        obtain ⟨g1, g2, g3, g4, g5, g6⟩ := enc_dec h'
        have hv : v' ≠ 0 := g1.resolve_left (by simp)
        have e1 : (b.toNat % 128 + 128 * v') % 128 = b.toNat % 128 := by omega
        have e2 : (b.toNat % 128 + 128 * v') / 128 = v' := by omega
        refine ⟨.inr (by omega), ?_, by omega, by simp; omega, by omega, ?_⟩
        · rw [enc_hi (by omega), e1, e2, g2, List.take_succ_cons]
          congr 1
          exact u8_eq (by omega)
        · rw [Nat.pow_succ]
          have : v' + 1 ≤ 128 ^ k := g6
          have := Nat.mul_le_mul_left 128 this
          omega
      · simp at h
theorem dec_enc : ∀ {k : Nat} {f : Bool} {v : Nat} (r : List UInt8), v < 128 ^ k → (v ≠ 0 ∨ (f = true ∧ 0 < k)) → decN k f (enc v ++ r) = some (v, (enc v).length)
  | 0, f, v, r, h, h2 => by
    have hv : v = 0 := by simpa using h
    rcases h2 with h2 | ⟨_, h2⟩
    · exact absurd hv h2
    · omega
  | k + 1, f, v, r, h, h2 => by
    by_cases hlt : v < 128
    · rw [enc_lo hlt, List.singleton_append, decN, u8_of v (by omega), if_pos hlt, if_neg]
      · rfl
      · rintro ⟨rfl, h0⟩
        rcases h2 with h2 | ⟨h2, _⟩
        · exact h2 h0
        · simp at h2
    · have hdiv : v / 128 < 128 ^ k := by
        rw [Nat.pow_succ, Nat.mul_comm] at h
        exact Nat.div_lt_of_lt_mul h
      rw [enc_hi hlt, List.cons_append, decN, u8_of _ (by omega), if_neg (by omega), dec_enc (f := false) r hdiv (.inl (by omega))]
      simp only [Option.some.injEq, Prod.mk.injEq, List.length_cons, and_true]
      omega
theorem enc_len : ∀ {i : Nat} {n : Nat}, 1 ≤ i → n < 128 ^ i → (enc n).length ≤ i
  | 0, n, h, _ => by omega
  | i + 1, n, _, h => by
    by_cases hlt : n < 128
    · rw [enc_lo hlt]; simp
    · rw [enc_hi hlt, List.length_cons]
      by_cases hi : i = 0
      · subst hi; simp at h; omega
      · have hdiv : n / 128 < 128 ^ i := by
          rw [Nat.pow_succ, Nat.mul_comm] at h
          exact Nat.div_lt_of_lt_mul h
        have := enc_len (by omega) hdiv
        omega
theorem enc_pos (n : Nat) : 1 ≤ (enc n).length := by
  by_cases hlt : n < 128
  · rw [enc_lo hlt]; simp
  · rw [enc_hi hlt]; simp
/-- What the decoder of both sides comes to. -/
def decU (l : List UInt8) : Int × Int × Bool := match decN 9 true l with
  | some (v, m) => ((v : Int), (m : Int), true)
  | none => (0, 0, false)
theorem shift_w (i : Nat) (h : i < 9) : (min (Int.toNat (IntKind.u64.wrap (IntKind.i64.wrap (7 * (i : Int))))) IntKind.i64.bits) = 7 * i ∧ (min (Int.toNat (IntKind.i64.wrap (7 * (i : Int)))) IntKind.i64.bits) = 7 * i ∧ 0 ≤ IntKind.u64.wrap (IntKind.i64.wrap (7 * (i : Int))) ∧ 0 ≤ IntKind.i64.wrap (7 * (i : Int)) := by
  have : ∀ i : Fin 9, (min (Int.toNat (IntKind.u64.wrap (IntKind.i64.wrap (7 * (i.val : Int))))) IntKind.i64.bits) = 7 * i.val ∧ (min (Int.toNat (IntKind.i64.wrap (7 * (i.val : Int)))) IntKind.i64.bits) = 7 * i.val ∧ 0 ≤ IntKind.u64.wrap (IntKind.i64.wrap (7 * (i.val : Int))) ∧ 0 ≤ IntKind.i64.wrap (7 * (i.val : Int)) := by decide +kernel
  exact this ⟨i, h⟩
theorem low7 (c : Nat) (h : c < 256) : IntKind.i64.wrap (andK .u8 (c : Int) 127) = ((c % 128 : Nat) : Int) := by
  have : ∀ c : Fin 256, IntKind.i64.wrap (andK .u8 (c.val : Int) 127) = ((c.val % 128 : Nat) : Int) := by decide +kernel
  exact this ⟨c, h⟩
/-- A digit is put on top. -/
theorem put_digit {acc c i : Nat} (hi : i < 9) (hacc : acc < 128 ^ i) (hc : c < 256) :
    orK .i64 (acc : Int) (IntKind.i64.wrap (IntKind.i64.wrap (andK .u8 (c : Int) 127) * 2 ^ (7 * i))) = ((acc + c % 128 * 128 ^ i : Nat) : Int) ∧ acc + c % 128 * 128 ^ i < 128 ^ (i + 1) := by
  have hp : (2 : Nat) ^ (7 * i) = 128 ^ i := by rw [Nat.pow_mul]
  have h9 : 128 ^ (i + 1) ≤ 128 ^ 9 := Nat.pow_le_pow_right (by omega) (by omega)
  have hlt : acc + c % 128 * 128 ^ i < 128 ^ (i + 1) := by
    rw [Nat.pow_succ]
    have h1 : c % 128 * 128 ^ i ≤ 127 * 128 ^ i := Nat.mul_le_mul_right _ (by omega)
    omega
  have h63 : acc + c % 128 * 128 ^ i < 9223372036854775808 := Nat.lt_of_lt_of_le hlt (Nat.le_trans h9 (by decide))
  have hor : acc ||| c % 128 * 128 ^ i = acc + c % 128 * 128 ^ i := by rw [← hp] at hacc ⊢; exact or_digit hacc
  refine ⟨?_, hlt⟩
  have e : (((c % 128 : Nat) : Int)) * 2 ^ (7 * i) = ((c % 128 * 128 ^ i : Nat) : Int) := by rw [← hp]; push_cast; rfl
  rw [low7 c hc, e, wrap_sm _ (by omega) (by omega), orK_nat _ _ (by rw [hor]; exact h63), hor]
theorem take_bl (s : ByteArray) (n : Nat) (h : n ≤ s.size) : bl (s.extract 0 n) = (bl s).take n := by
  unfold bl
  rw [ByteArray.data_extract, Array.toList_extract]
  simp [List.extract]
theorem drop_bl (s : ByteArray) (a : Nat) : bl (s.extract a s.size) = (bl s).drop a := by
  unfold bl
  rw [ByteArray.data_extract, Array.toList_extract]
  have : s.size = s.data.toList.length := by simp
  rw [List.extract, List.take_of_length_le (by rw [List.length_drop, this]; omega)]
theorem bl_inj {a b : ByteArray} (h : bl a = bl b) : a = b := bytes_ext h
theorem bl_app (a b : ByteArray) : bl (a ++ b) = bl a ++ bl b := by unfold bl; rw [ByteArray.data_append]; simp

theorem shr7 (v : Nat) : Int.fdiv (v : Int) (2 ^ (min (Int.toNat 7) IntKind.i64.bits)) = ((v / 128 : Nat) : Int) := by
  have : (2 : Int) ^ (min (Int.toNat 7) IntKind.i64.bits) = 128 := by decide
  rw [this, Int.fdiv_eq_ediv_of_nonneg _ (by omega)]
  omega
theorem hi7 (v : Nat) (h : v < 9223372036854775808) : IntKind.u8.wrap (orK .i64 (andK .i64 (v : Int) 127) 128) = ((v % 128 + 128 : Nat) : Int) := by
  have e := andK_nat v 127 h (by omega)
  have e2 : v &&& 127 = v % 128 := Nat.and_two_pow_sub_one_eq_mod v 7
  rw [e2] at e
  rw [show (127 : Int) = ((127 : Nat) : Int) from rfl, e]
  have : ∀ c : Fin 128, IntKind.u8.wrap (orK .i64 ((c.val : Nat) : Int) 128) = ((c.val + 128 : Nat) : Int) := by decide +kernel
  exact this ⟨v % 128, by omega⟩
theorem enc9 {n : Nat} (h : n < 9223372036854775808) : (enc n).length ≤ 9 := enc_len (by omega) (Nat.lt_of_lt_of_le h (by decide))
theorem pl_sEnc (n : Nat) (h : n < 9223372036854775808) : p_spec_EncodeUvarint (n : Int) = some (ofL (enc n)) := by
  unfold p_spec_EncodeUvarint
  rw [if_neg (by omega)]
  have h9 := enc9 h
  refine iterK_rule (fun d (s : Int × List Int) => ∃ v : Nat, s.1 = (v : Int) ∧ v < 9223372036854775808 ∧ d = (enc v).length ∧ (s.2.map fun x => UInt8.ofNat x.toNat) ++ enc v = enc n) ?_ (enc n).length _ (by unfold NN; omega) ⟨n, rfl, h, rfl, by simp⟩
  rintro d ⟨v2, v3⟩ ⟨v, g1, g2, g3, g4⟩ nx hnx
  dsimp only at g1 g4 hnx ⊢
  subst g1
  have hlen : v3.length ≤ 9 := by
    have := congrArg List.length g4
    simp only [List.length_append, List.length_map] at this
    omega
  by_cases hv : v < 128
  · rw [if_neg (by omega), grd_pos (appOk_of _ _ (by omega))]
    have e : IntKind.u8.wrap (v : Int) = (v : Int) := u8_wrap _ (by omega) (by omega)
    rw [e, bytesOf_rU, List.map_append, ← g4, enc_lo hv]
    rfl
  · rw [if_pos (by omega), grd_pos (appOk_of _ _ (by omega)), shr7, hi7 v g2]
    refine hnx (enc (v / 128)).length _ ?_ ⟨v / 128, rfl, by omega, rfl, ?_⟩
    · rw [g3, enc_hi hv]; simp
    · dsimp only
      rw [← g4, enc_hi hv, List.map_append, List.append_assoc]
      rfl

theorem pl_iDec (s : ByteArray) (hs : s.size ≤ 100000000) : p_impl_DecodeUvarint s = some (decU (bl s)) := by
  unfold p_impl_DecodeUvarint
  rw [grd_pos (by omega)]
  have hl := bl_len s
  refine forI_rule (fun i (v : Int) => ∃ acc : Nat, v = (acc : Int) ∧ acc < 128 ^ i ∧ i ≤ 9 ∧ decN 9 true (bl s) = (match decN (9 - i) (decide (i = 0)) ((bl s).drop i) with
    | some (w, m) => some (acc + w * 128 ^ i, i + m)
    | none => none)) (fun i hi v hv nx hnx => ?_) (fun v hv => ?_) 0 ⟨0, rfl, by simp, by omega, by
      simp only [Nat.sub_zero, decide_true, List.drop_zero, Nat.zero_add, Nat.pow_zero, Nat.mul_one]
      cases decN 9 true (bl s) with
      | none => rfl
      | some p => rfl⟩
  · obtain ⟨acc, rfl, h1, h2, h3⟩ := hv
    have hi' : i < s.size := by omega
    have hib : i < (bl s).length := by omega
    by_cases h9 : i < 9
    · obtain ⟨_, w1, _, w3⟩ := shift_w i h9
      have hc := ((bl s)[i]).toNat_lt
      rw [if_pos (by omega), getB_lt hib, grd_pos w3, w1]
      obtain ⟨p1, p2⟩ := put_digit h9 h1 (c := ((bl s)[i]).toNat) (by omega)
      rw [p1]
      rw [List.drop_eq_getElem_cons hib, show 9 - i = (9 - (i + 1)) + 1 by omega, decN] at h3
      have h63 : acc + ((bl s)[i]).toNat % 128 * 128 ^ i < 9223372036854775808 := Nat.lt_of_lt_of_le p2 (Nat.le_trans (Nat.pow_le_pow_right (by omega) (show i + 1 ≤ 9 by omega)) (by decide))
      by_cases hlt : ((bl s)[i]).toNat < 128
      · rw [if_pos hlt] at h3
        rw [if_pos (by omega), wrap_sm (((i : Nat) : Int) + 1) (by omega) (by omega)]
        have hm : ((bl s)[i]).toNat % 128 = ((bl s)[i]).toNat := Nat.mod_eq_of_lt hlt
        rw [hm]
        by_cases hz : i ≠ 0 ∧ ((bl s)[i]).toNat = 0
        · rw [if_pos ⟨by simpa using hz.1, hz.2⟩] at h3
          rw [if_pos (by omega), if_pos (by omega)]
          unfold decU
          rw [h3]
        · rw [if_neg (by simpa using hz)] at h3
          have hr : decU (bl s) = (((acc + ((bl s)[i]).toNat * 128 ^ i : Nat) : Int), (i : Int) + 1, true) := by
            unfold decU
            rw [h3]
            push_cast
            rfl
          rw [hr]
          by_cases h0 : (i : Int) > 0
          · rw [if_pos h0, if_neg (fun hc => hz ⟨by omega, by omega⟩)]
          · rw [if_neg h0]
      · rw [if_neg hlt] at h3
        rw [if_neg (by omega)]
        refine hnx _ ⟨_, rfl, p2, by omega, ?_⟩
        rw [h3, show decide (i + 1 = 0) = false by simp]
        cases decN (9 - (i + 1)) false ((bl s).drop (i + 1)) with
        | none => rfl
        | some p =>
          obtain ⟨w, m⟩ := p
          dsimp only
          congr 2
          · rw [Nat.pow_succ, Nat.add_mul, Nat.add_assoc]
            congr 2
            rw [Nat.mul_comm 128 w, Nat.mul_assoc, Nat.mul_comm 128]
          · omega
    · have : i = 9 := by omega
      subst this
      rw [if_neg (by omega)]
      unfold decU
      rw [h3]
      rfl
  · obtain ⟨acc, rfl, h1, h2, h3⟩ := hv
    have e : (bl s).drop ((s.size : Int).toNat) = [] := List.drop_eq_nil_of_le (by omega)
    unfold decU
    rw [h3, e]
    cases 9 - (s.size : Int).toNat with
    | zero => rfl
    | succ k => rfl

theorem hi7i (v : Nat) : orK .u8 (IntKind.u8.wrap (v : Int)) 128 = ((v % 128 + 128 : Nat) : Int) := by
  have e : IntKind.u8.wrap (v : Int) = ((v % 256 : Nat) : Int) := by rw [IntKind.wrap_u8]; omega
  have h1 : ∀ c : Fin 256, orK .u8 ((c.val : Nat) : Int) 128 = ((c.val % 128 + 128 : Nat) : Int) := by decide +kernel
  have h2 := h1 ⟨v % 256, by omega⟩
  rw [e, h2]
  congr 1
  show v % 256 % 128 + 128 = _
  omega
theorem pl_iEnc (n : Nat) (h : n < 9223372036854775808) : p_impl_EncodeUvarint (n : Int) = some (ofL (enc n)) := by
  unfold p_impl_EncodeUvarint
  rw [if_neg (by omega)]
  have h9 := enc9 h
  refine iterK_rule (fun d (s : Int × List Int) => ∃ v : Nat, s.1 = (v : Int) ∧ v < 9223372036854775808 ∧ d = (enc v).length ∧ (s.2.map fun x => UInt8.ofNat x.toNat) ++ enc v = enc n) ?_ (enc n).length _ (by unfold NN; omega) ⟨n, rfl, h, rfl, by simp⟩
  rintro d ⟨v2, v3⟩ ⟨v, g1, g2, g3, g4⟩ nx hnx
  dsimp only at g1 g4 hnx ⊢
  subst g1
  have hlen : v3.length ≤ 9 := by
    have := congrArg List.length g4
    simp only [List.length_append, List.length_map] at this
    omega
  by_cases hv : v < 128
  · rw [if_neg (by omega), grd_pos (appOk_of _ _ (by omega))]
    have e : IntKind.u8.wrap (v : Int) = (v : Int) := u8_wrap _ (by omega) (by omega)
    rw [e, bytesOf_rU, List.map_append, ← g4, enc_lo hv]
    rfl
  · rw [if_pos (by omega), grd_pos (appOk_of _ _ (by omega)), shr7, hi7i v]
    refine hnx (enc (v / 128)).length _ ?_ ⟨v / 128, rfl, by omega, rfl, ?_⟩
    · rw [g3, enc_hi hv]; simp
    · dsimp only
      rw [← g4, enc_hi hv, List.map_append, List.append_assoc]
      rfl
/-- What one has encoded is decoded, whatever follows. -/
theorem decU_enc (n : Nat) (h : n < 9223372036854775808) (r : List UInt8) : decU (enc n ++ r) = ((n : Int), ((enc n).length : Int), true) := by
  have h9 : n < 128 ^ 9 := Nat.lt_of_lt_of_le h (by decide)
  have := dec_enc (k := 9) (f := true) r h9 (by
    by_cases h0 : n = 0
    · exact .inr ⟨rfl, by omega⟩
    · exact .inl h0)
  unfold decU
  rw [this]
theorem decU_ok {l : List UInt8} (h : (decU l).2.2 = true) : ∃ v m : Nat, decU l = ((v : Int), (m : Int), true) ∧ v < 9223372036854775808 ∧ 1 ≤ m ∧ m ≤ l.length ∧ enc v = l.take m := by
  unfold decU at h ⊢
  cases hd : decN 9 true l with
  | none => rw [hd] at h; simp at h
  | some p =>
    obtain ⟨v, m⟩ := p
    obtain ⟨_, h2, h3, h4, h5, h6⟩ := enc_dec hd
    exact ⟨v, m, rfl, Nat.lt_of_lt_of_le h6 (by decide), h3, h4, h2⟩
theorem pl_iEncS (s : ByteArray) (h : s.size ≤ 100000000) : p_impl_EncodeString s = some (ofL (enc s.size ++ bl s)) := by
  unfold p_impl_EncodeString
  have h9 := enc9 (n := s.size) (by omega)
  rw [pl_iEnc s.size (by omega), callK_some, grd_pos (by rw [size_ofL]; omega)]
  exact congrArg some (bl_inj (by rw [bl_app, bl_ofL, bl_ofL]))
theorem pl_iDecS (s : ByteArray) (h : s.size ≤ 90000000) (r : List UInt8) (hr : r.length ≤ 10) : p_impl_DecodeString (ofL (enc s.size ++ bl s) ++ ofL r) = some (s, (((enc s.size).length + s.size : Nat) : Int), true) := by
  have h9 := enc9 (n := s.size) (by omega)
  have hsz : (ofL (enc s.size ++ bl s) ++ ofL r).size = (enc s.size).length + s.size + r.length := by
    rw [ByteArray.size_append, size_ofL, size_ofL, List.length_append, bl_len]
  have hb : bl (ofL (enc s.size ++ bl s) ++ ofL r) = enc s.size ++ (bl s ++ r) := by rw [bl_app, bl_ofL, bl_ofL, List.append_assoc]
  unfold p_impl_DecodeString
  rw [pl_iDec _ (by rw [hsz]; omega), hb, decU_enc s.size (by omega), callK_some]
  dsimp only
  have w1 : IntKind.i64.wrap (((ofL (enc s.size ++ bl s) ++ ofL r).size : Int) - ((enc s.size).length : Int)) = ((ofL (enc s.size ++ bl s) ++ ofL r).size : Int) - ((enc s.size).length : Int) := wrap_sm _ (by omega) (by omega)
  have w2 : IntKind.i64.wrap (((enc s.size).length : Int) + (s.size : Int)) = ((enc s.size).length : Int) + (s.size : Int) := wrap_sm _ (by omega) (by omega)
  rw [if_pos rfl, w1, w2, if_neg (by omega), grd_pos (by omega)]
  congr 1
  refine Prod.ext ?_ (Prod.ext ?_ rfl)
  · dsimp only
    apply bl_inj
    have e1 : (((enc s.size).length : Int) + (s.size : Int)).toNat = (enc s.size).length + s.size := by omega
    rw [e1, Int.toNat_natCast]
    have : bl (ByteArray.extract (ofL (enc s.size ++ bl s) ++ ofL r) (enc s.size).length ((enc s.size).length + s.size)) = ((bl (ofL (enc s.size ++ bl s) ++ ofL r)).drop (enc s.size).length).take s.size := by
      unfold bl
      rw [ByteArray.data_extract, Array.toList_extract, List.extract, Nat.add_sub_cancel_left]
    rw [this, hb, List.drop_left, List.take_left' (bl_len s)]
  · dsimp only; push_cast; rfl
/-! Numbers of fixed length. -/
theorem bv_wrap (A : Nat) (h : A < 18446744073709551616) : BitVec.ofInt 64 (IntKind.i64.wrap (A : Int)) = BitVec.ofNat 64 A := by
  apply BitVec.eq_of_toNat_eq
  rw [BitVec.toNat_ofInt, BitVec.toNat_ofNat, IntKind.wrap_i64]
  omega
theorem orW (A B : Nat) (hA : A < 18446744073709551616) (hB : B < 18446744073709551616) : orK .i64 (IntKind.i64.wrap (A : Int)) (IntKind.i64.wrap (B : Int)) = IntKind.i64.wrap ((A ||| B : Nat) : Int) := by
  show IntKind.i64.wrap (((BitVec.ofInt 64 (IntKind.i64.wrap (A : Int)) ||| BitVec.ofInt 64 (IntKind.i64.wrap (B : Int))).toNat : Nat) : Int) = _
  rw [bv_wrap A hA, bv_wrap B hB]
  congr 2
  rw [BitVec.toNat_or, BitVec.toNat_ofNat, BitVec.toNat_ofNat, Nat.mod_eq_of_lt hA, Nat.mod_eq_of_lt hB]
theorem sh8 (i : Nat) (h : i < 8) : (min (Int.toNat (IntKind.i64.wrap (8 * (i : Int)))) IntKind.i64.bits) = 8 * i ∧ 0 ≤ IntKind.i64.wrap (8 * (i : Int)) := by
  have : ∀ i : Fin 8, (min (Int.toNat (IntKind.i64.wrap (8 * (i.val : Int)))) IntKind.i64.bits) = 8 * i.val ∧ 0 ≤ IntKind.i64.wrap (8 * (i.val : Int)) := by decide +kernel
  exact this ⟨i, h⟩
theorem byte_at (n : Int) (i : Nat) (h : i < 8) : IntKind.u8.wrap (Int.fdiv n (2 ^ (8 * i))) = (((n % 18446744073709551616).toNat / 2 ^ (8 * i) % 256 : Nat) : Int) := by
  have h8 : i = 0 ∨ i = 1 ∨ i = 2 ∨ i = 3 ∨ i = 4 ∨ i = 5 ∨ i = 6 ∨ i = 7 := by omega
  have key : ∀ (q : Int) (Q : Nat), (q : Int) = (Q : Int) → 0 < q → n / q % 256 = (n % 18446744073709551616) / q % 256 → IntKind.u8.wrap (Int.fdiv n q) = (((n % 18446744073709551616).toNat / Q % 256 : Nat) : Int) := by
    intro q Q hq h0 he
    rw [IntKind.wrap_u8, Int.fdiv_eq_ediv_of_nonneg _ (by omega), he, hq]
    have : (((n % 18446744073709551616).toNat : Nat) : Int) = n % 18446744073709551616 := by omega
    push_cast
    rw [this]
  rcases h8 with rfl | rfl | rfl | rfl | rfl | rfl | rfl | rfl
  · exact key (2 ^ (8 * 0)) (2 ^ (8 * 0)) (by decide) (by decide) (by show n / 1 % 256 = (n % 18446744073709551616) / 1 % 256; omega)
  · exact key (2 ^ (8 * 1)) (2 ^ (8 * 1)) (by decide) (by decide) (by show n / 256 % 256 = (n % 18446744073709551616) / 256 % 256; omega)
  · exact key (2 ^ (8 * 2)) (2 ^ (8 * 2)) (by decide) (by decide) (by show n / 65536 % 256 = (n % 18446744073709551616) / 65536 % 256; omega)
  · exact key (2 ^ (8 * 3)) (2 ^ (8 * 3)) (by decide) (by decide) (by show n / 16777216 % 256 = (n % 18446744073709551616) / 16777216 % 256; omega)
  · exact key (2 ^ (8 * 4)) (2 ^ (8 * 4)) (by decide) (by decide) (by show n / 4294967296 % 256 = (n % 18446744073709551616) / 4294967296 % 256; omega)
  · exact key (2 ^ (8 * 5)) (2 ^ (8 * 5)) (by decide) (by decide) (by show n / 1099511627776 % 256 = (n % 18446744073709551616) / 1099511627776 % 256; omega)
  · exact key (2 ^ (8 * 6)) (2 ^ (8 * 6)) (by decide) (by decide) (by show n / 281474976710656 % 256 = (n % 18446744073709551616) / 281474976710656 % 256; omega)
  · exact key (2 ^ (8 * 7)) (2 ^ (8 * 7)) (by decide) (by decide) (by show n / 72057594037927936 % 256 = (n % 18446744073709551616) / 72057594037927936 % 256; omega)
def fx (n : Int) : List UInt8 := (List.range 8).map fun i => UInt8.ofNat ((n % 18446744073709551616).toNat / 2 ^ (8 * i) % 256)
theorem fx_len (n : Int) : (fx n).length = 8 := by unfold fx; simp
theorem pl_fixed (n : Int) : p_impl_EncodeFixed n 8 = some (ofL (fx n)) := by
  unfold p_impl_EncodeFixed p_impl_fixed
  rw [if_pos (by decide), grd_pos (by decide), grd_pos (by decide)]
  have := forK_fill (R := ByteArray) (n := 8) (z := (0 : Int)) (k := fun (v6 : List Int) => some (bytesOf (v6.map rU))) (fun i => (((n % 18446744073709551616).toNat / 2 ^ (8 * i) % 256 : Nat) : Int))
    (f := fun (i5 : Nat) x8 (v6 : List Int) (nx7 : (List Int) → Option _) =>
    grd (0 ≤ (IntKind.i64.wrap (8 * (i5 : Int)))) <|
    getK v6 (i5 : Int) fun x9 =>
    nx7 (v6.set (Int.toNat (i5 : Int)) (IntKind.u8.wrap (Int.fdiv n (2 ^ (min (Int.toNat (IntKind.i64.wrap (8 * (i5 : Int)))) IntKind.i64.bits)))))) (fun i hi x v nx hv => by
      obtain ⟨w1, w2⟩ := sh8 i hi
      rw [grd_pos w2, getK_lt (by omega), w1, byte_at n i hi, Int.toNat_natCast])
  rw [show (Int.toNat 8) = 8 from rfl, this, callK_some, bytesOf_rU]
  unfold fx
  rw [List.map_map]
  rfl
theorem pl_dfix (n : Int) (hn : i64r n) : p_impl_DecodeFixed (ofL (fx n)) = some n := by
  have hsz : (ofL (fx n)).size = 8 := by rw [size_ofL, fx_len]
  obtain ⟨N, hN⟩ : ∃ N : Nat, (n % 18446744073709551616).toNat = N := ⟨_, rfl⟩
  have hNn : ((N : Nat) : Int) = n % 18446744073709551616 := by omega
  unfold p_impl_DecodeFixed
  rw [hsz, if_neg (by omega), grd_pos (by omega)]
  refine forI_rule (fun i (v : Int) => v = IntKind.i64.wrap ((N % 2 ^ (8 * i) : Nat) : Int)) (fun i hi v hv nx hnx => ?_) (fun v hv => ?_) _ (by simp; decide)
  · have hi8 : i < 8 := by omega
    obtain ⟨w1, w2⟩ := sh8 i hi8
    have hlt : i < (bl (ofL (fx n))).length := by rw [bl_ofL, fx_len]; exact hi8
    have hb : ((bl (ofL (fx n)))[i]).toNat = N / 2 ^ (8 * i) % 256 := by
      have : (bl (ofL (fx n)))[i] = UInt8.ofNat (N / 2 ^ (8 * i) % 256) := by
        simp only [bl_ofL, fx, List.getElem_map, List.getElem_range, hN]
      rw [this]
      exact u8_of _ (by omega)
    have hNb : N < 2 ^ 64 := by omega
    have hp : 2 ^ (8 * i) * 256 = 2 ^ (8 * (i + 1)) := by rw [show 8 * (i + 1) = 8 * i + 8 by omega, Nat.pow_add]
    have hle : 2 ^ (8 * (i + 1)) ≤ 2 ^ 64 := Nat.pow_le_pow_right (by omega) (by omega)
    have hB : N / 2 ^ (8 * i) % 256 * 2 ^ (8 * i) < 18446744073709551616 := by
      have h1 : N / 2 ^ (8 * i) % 256 * 2 ^ (8 * i) < 256 * 2 ^ (8 * i) := Nat.mul_lt_mul_of_pos_right (by omega) (Nat.pow_pos (by omega))
      have : (2 : Nat) ^ 64 = 18446744073709551616 := by decide
      omega
    have hA : N % 2 ^ (8 * i) < 2 ^ (8 * i) := Nat.mod_lt _ (Nat.pow_pos (by omega))
    have hA2 : N % 2 ^ (8 * i) < 18446744073709551616 := by
      have : (2 : Nat) ^ 64 = 18446744073709551616 := by decide
      have := Nat.mod_le N (2 ^ (8 * i))
      omega
    rw [getB_lt hlt, hb, grd_pos w2, w1, hv]
    have e1 : IntKind.i64.wrap ((N / 2 ^ (8 * i) % 256 : Nat) : Int) = ((N / 2 ^ (8 * i) % 256 : Nat) : Int) := wrap_sm _ (by omega) (by omega)
    have e2 : ((N / 2 ^ (8 * i) % 256 : Nat) : Int) * 2 ^ (8 * i) = ((N / 2 ^ (8 * i) % 256 * 2 ^ (8 * i) : Nat) : Int) := by push_cast; rfl
    rw [e1, e2, orW _ _ hA2 hB, or_digit hA]
    refine hnx _ ?_
    congr 2
    rw [← hp, Nat.mod_mul, Nat.mul_comm (2 ^ (8 * i))]
  · rw [hv]
    congr 1
    have e : N % 2 ^ (8 * ((8 : Nat) : Int).toNat) = N := Nat.mod_eq_of_lt (by show N < 18446744073709551616; omega)
    rw [e, IntKind.wrap_i64, hNn]
    obtain ⟨h1, h2⟩ := hn
    omega
/-! The draws. -/
theorem int_ok {b : Int} {s : Sl00Src} (hb : 0 ≤ b) (h : SrcOk (b + 4) s) : ∃ r s', p_spec_l01Int s = some (r, s') ∧ i64r r ∧ SrcOk b s' := by
  unfold p_spec_l01Int
  obtain ⟨r, s1, e1, _, o1⟩ := pick_ok (b := b + 2) (s := s) 4 (by omega) (h.le (by omega))
  rw [e1, callK_some]
  dsimp only
  by_cases c1 : r = 0
  · rw [if_pos c1]
    obtain ⟨v, s2, e2, hv, o2⟩ := among_ok (b := b) (s := s1) [0, 1, 127, 128, 16383, 16384, 255, 256, 65535, 9223372036854775807, 4611686018427387904, (-1), (-9223372036854775808), (-128)] (by simp) hb o1
    rw [e2, callK_some]
    refine ⟨_, _, rfl, ?_, o2⟩
    have : ∀ x ∈ ([0, 1, 127, 128, 16383, 16384, 255, 256, 65535, 9223372036854775807, 4611686018427387904, (-1), (-9223372036854775808), (-128)] : List Int), -9223372036854775808 ≤ x ∧ x ≤ 9223372036854775807 := by decide
    exact this v hv
  rw [if_neg c1]
  by_cases c2 : r = 1
  · rw [if_pos c2]
    obtain ⟨v, s2, e2, ⟨h1, h2, _⟩, o2⟩ := pick_ok (b := b) (s := s1) 60000 hb o1
    rw [e2, callK_some]
    exact ⟨_, _, rfl, ⟨by omega, by have := h2 (by omega); omega⟩, o2⟩
  · rw [if_neg c2]
    obtain ⟨v, s2, e2, ⟨h1, h2, _⟩, o2⟩ := pick_ok (b := b) (s := s1) 200 hb o1
    rw [e2, callK_some]
    exact ⟨_, _, rfl, ⟨by omega, by have := h2 (by omega); omega⟩, o2⟩
theorem text_ok {b : Int} {s : Sl00Src} (l : List ByteArray) (hl : 0 < l.length) (hb : 0 ≤ b) (h : SrcOk (b + 2) s) : ∃ r s', p_spec_l00Src_text l s = some (r, s') ∧ r ∈ l ∧ SrcOk b s' := by
  obtain ⟨r, s1, e1, ⟨b1, b2, b3⟩, o1⟩ := pick_ok (l.length : Int) hb h
  unfold p_spec_l00Src_text
  have hr : r < (l.length : Int) := by
    rcases Nat.lt_or_ge 1 l.length with h | h
    · exact b2 (by omega)
    · have := b3 (by omega); omega
  rw [e1, callK_some, getK_in b1 hr]
  exact ⟨_, _, rfl, List.getElem_mem _, o1⟩
theorem damage_ok {b : Int} {s : Sl00Src} (a : ByteArray) (ha : a.size ≤ 100) (hb : 0 ≤ b) (h : SrcOk (b + 1100) s) : ∃ r s', p_spec_l01Damage a s = some (r, s') ∧ r.size ≤ 2000 := by
  unfold p_spec_l01Damage
  obtain ⟨r, s1, e1, _, o1⟩ := pick_ok (b := b + 1050) (s := s) 6 (by omega) (h.le (by omega))
  rw [e1, callK_some]
  dsimp only
  by_cases c0 : r = 0
  · rw [if_pos c0]
    obtain ⟨⟨w, s2⟩, e2, o2, hw⟩ := word_ok (b := b) (s := s1) 3 (by omega) hb (o1.le (by omega))
    dsimp only at hw
    rw [e2, callK_some, grd_pos (by dsimp only; omega)]
    exact ⟨_, _, rfl, by rw [ByteArray.size_append]; dsimp only; omega⟩
  rw [if_neg c0]
  by_cases c1 : r = 1
  · rw [if_pos c1]
    have hw : IntKind.i64.wrap ((ByteArray.size a : Int) + 1) = (ByteArray.size a : Int) + 1 := wrap_sm _ (by omega) (by omega)
    obtain ⟨v, s2, e2, ⟨h1, h2, h3⟩, o2⟩ := pick_ok (b := b) (s := s1) ((ByteArray.size a : Int) + 1) hb (o1.le (by omega))
    rw [hw, e2, callK_some]
    dsimp only
    have hv : v ≤ (ByteArray.size a : Int) := by
      rcases Int.lt_or_le 1 ((ByteArray.size a : Int) + 1) with q | q
      · have := h2 q; omega
      · have := h3 q; omega
    rw [grd_pos ⟨by omega, h1, hv⟩]
    exact ⟨_, _, rfl, by rw [ByteArray.size_extract]; omega⟩
  rw [if_neg c1]
  by_cases c2 : r = 2
  rotate_left
  · rw [if_neg c2]; exact ⟨_, _, rfl, by omega⟩
  rw [if_pos c2]
  by_cases c3 : (ByteArray.size a : Int) > 0
  rotate_left
  · rw [if_neg c3]; exact ⟨_, _, rfl, by omega⟩
  have hl : (bytesL a).length = a.size := by unfold bytesL; rw [List.length_map, Array.length_toList]; rfl
  obtain ⟨v, s2, e2, ⟨h1, h2, h3⟩, o2⟩ := pick_ok (b := b + 2) (s := s1) ((bytesL a).length : Int) (by omega) (o1.le (by omega))
  have hv : v < ((bytesL a).length : Int) := by
    rcases Int.lt_or_le 1 ((bytesL a).length : Int) with q | q
    · exact h2 q
    · have := h3 q; omega
  obtain ⟨u, s3, e3, ⟨u1, u2, _⟩, o3⟩ := pick_ok (b := b) (s := s2) 8 hb o2
  have hu := u2 (by omega)
  have hw : IntKind.u64.wrap u = u := by rw [IntKind.wrap_u64]; omega
  rw [if_pos c3, grd_pos (appOk_of _ _ (by omega)), e2, callK_some, getK_in h1 hv]
  dsimp only
  rw [e3, callK_some]
  dsimp only
  rw [hw, grd_pos u1]
  exact ⟨_, _, rfl, by rw [bytesOf_rU, size_ofL, List.length_map, List.length_set, hl]; omega⟩
theorem drawE_ok (code : List Int) (h : ∀ x ∈ code, 0 ≤ x ∧ x ≤ 255) (hl : code.length ≤ 1048576) : ∃ n, p_spec_DrawEncodeUvarint code = some n ∧ i64r n := by
  unfold p_spec_DrawEncodeUvarint
  obtain ⟨s, e, o⟩ := from_ok h hl
  obtain ⟨r, s1, e1, hr, _⟩ := int_ok (b := 0) (s := s) (by omega) (o.le (by omega))
  rw [e, callK_some, e1, callK_some]
  exact ⟨_, rfl, hr⟩
theorem drawD_ok (code : List Int) (h : ∀ x ∈ code, 0 ≤ x ∧ x ≤ 255) (hl : code.length ≤ 1048576) : ∃ t, p_spec_DrawDecodeUvarint code = some t ∧ t.size ≤ 2000 := by
  unfold p_spec_DrawDecodeUvarint
  obtain ⟨s, e, o⟩ := from_ok h hl
  obtain ⟨r, s1, e1, o1⟩ := one_ok (b := 2000) (s := s) 4 (by omega) (o.le (by omega))
  rw [e, callK_some, e1, callK_some]
  dsimp only
  by_cases c : r = true
  · rw [if_pos c]
    obtain ⟨t, s2, e2, ht, _⟩ := text_ok (b := 0) (s := s1) ([(⟨#[]⟩ : ByteArray), (⟨#[128]⟩ : ByteArray), (⟨#[128, 0]⟩ : ByteArray), (⟨#[255, 255, 255, 255, 255, 255, 255, 255, 127]⟩ : ByteArray), (⟨#[255, 255, 255, 255, 255, 255, 255, 255, 255, 1]⟩ : ByteArray), (⟨#[129, 128, 0]⟩ : ByteArray)] : List ByteArray) (by simp) (by omega) (o1.le (by omega))
    rw [e2, callK_some]
    refine ⟨_, rfl, ?_⟩
    simp only [List.mem_cons, List.not_mem_nil, or_false] at ht
    rcases ht with rfl | rfl | rfl | rfl | rfl | rfl <;> (dsimp only; decide)
  · rw [if_neg c]
    obtain ⟨n, s2, e2, hn, o2⟩ := int_ok (b := 1100) (s := s1) (by omega) (o1.le (by omega))
    rw [e2, callK_some]
    dsimp only
    have hE : ∃ y, p_spec_EncodeUvarint n = some y ∧ y.size ≤ 100 := by
      by_cases h0 : n < 0
      · unfold p_spec_EncodeUvarint; rw [if_pos h0]; exact ⟨_, rfl, by decide⟩
      · obtain ⟨k, rfl⟩ := Int.eq_ofNat_of_zero_le (show 0 ≤ n by omega)
        have hlt : k < 9223372036854775808 := by have := hn.2; omega
        exact ⟨_, pl_sEnc k hlt, by rw [size_ofL]; have := enc9 hlt; omega⟩
    obtain ⟨y, ey, hy⟩ := hE
    obtain ⟨t, s3, e3, ht⟩ := damage_ok (b := 0) (s := s2) y hy (by omega) (o2.le (by omega))
    rw [ey, callK_some, e3, callK_some]
    exact ⟨_, rfl, ht⟩
theorem drawS_ok (code : List Int) (h : ∀ x ∈ code, 0 ≤ x ∧ x ≤ 255) (hl : code.length ≤ 1048576) : ∃ t, p_spec_DrawEncodeString code = some t ∧ t.size ≤ 1000 := by
  unfold p_spec_DrawEncodeString
  obtain ⟨s, e, o⟩ := from_ok h hl
  obtain ⟨r, e1, _, hr⟩ := word_ok (b := 0) (s := s) 200 (by omega) (by omega) (o.le (by omega))
  rw [e, callK_some, e1, callK_some]
  exact ⟨_, rfl, by omega⟩
theorem pl_tail (w : ByteArray) (n : Int) (hw : w.size ≤ 1000) (hn : i64r n) : (callK (p_impl_EncodeString w) fun y25 =>
      grd (((ByteArray.size y25 + ByteArray.size (⟨#[122]⟩ : ByteArray) : Nat) : Int) ≤ 9223372036854775807) <|
      callK (p_impl_DecodeString (y25 ++ (⟨#[122]⟩ : ByteArray))) fun y27 =>
      if y27.2.2 = true then
        if (y27.1.toList == w.toList) = true then
          if y27.2.1 = (ByteArray.size y25 : Int) then
            callK (p_impl_EncodeFixed n 8) fun y31 =>
            callK (p_impl_DecodeFixed y31) fun y32 =>
            some (y32 == n)
          else
            some false
        else
          some false
      else
        some false) = some true := by
  have eS := pl_iEncS w (by omega)
  have h9 := enc9 (n := w.size) (by omega)
  have hz : (⟨#[122]⟩ : ByteArray) = ofL [122] := rfl
  have eD := pl_iDecS w (by omega) [122] (by simp)
  have hsz : (ofL (enc w.size ++ bl w)).size = (enc w.size).length + w.size := by rw [size_ofL, List.length_append, bl_len]
  rw [eS, callK_some, hz, grd_pos (by rw [hsz, size_ofL]; simp; omega), eD, callK_some]
  dsimp only
  rw [if_pos rfl, if_pos (by simp), if_pos (by rw [hsz]), pl_fixed, callK_some, pl_dfix n hn, callK_some]
  simp
theorem pl_tail0 (more : List Int) (w : ByteArray) (n : Int) (e3 : p_spec_DrawEncodeString more = some w) (hw : w.size ≤ 1000) (hn : i64r n) : (callK (p_spec_DrawEncodeString more) fun y25 => callK (p_impl_EncodeString y25) fun y26 =>
      grd (((ByteArray.size y26 + ByteArray.size (⟨#[122]⟩ : ByteArray) : Nat) : Int) ≤ 9223372036854775807) <|
      callK (p_impl_DecodeString (y26 ++ (⟨#[122]⟩ : ByteArray))) fun y27 =>
      if y27.2.2 = true then
        if (y27.1.toList == y25.toList) = true then
          if y27.2.1 = (ByteArray.size y26 : Int) then
            callK (p_impl_EncodeFixed n 8) fun y31 =>
            callK (p_impl_DecodeFixed y31) fun y32 =>
            some (y32 == n)
          else
            some false
        else
          some false
      else
        some false) = some true := by
  rw [e3, callK_some]
  exact pl_tail w n hw hn
theorem pl_mid (t : ByteArray) (ht : t.size ≤ 2000) (T : Option Bool) (hT : T = some true) : (callK (p_impl_DecodeUvarint t) fun y11 =>
      if y11.2.2 = true then
        if y11.2.1 < 1 then
          some false
        else
          if y11.2.1 > (ByteArray.size t : Int) then
            some false
          else
            callK (p_impl_EncodeUvarint y11.1) fun y15 =>
            grd (0 ≤ 0 ∧ 0 ≤ y11.2.1 ∧ y11.2.1 ≤ (ByteArray.size t : Int)) <|
            if (y15.toList == (ByteArray.extract t (Int.toNat 0) (Int.toNat y11.2.1)).toList) = true then T
            else
              some false
      else T) = some true := by
  rw [pl_iDec t (by omega), callK_some]
  by_cases c : (decU (bl t)).2.2 = true
  · obtain ⟨v, m, hd, q1, q2, q3, q4⟩ := decU_ok c
    have q3' : m ≤ t.size := by rw [bl_len] at q3; exact q3
    rw [hd]
    dsimp only
    rw [if_pos rfl, if_neg (by omega), if_neg (by omega), pl_iEnc v q1, callK_some, grd_pos ⟨by omega, by omega, by omega⟩, if_pos ?_, hT]
    rw [str_eq, decide_eq_true_eq]
    apply bl_inj
    rw [bl_ofL, Int.toNat_natCast, show Int.toNat 0 = 0 from rfl, take_bl t m q3', q4]
  · rw [if_neg c, hT]
theorem pl_law (code more : List Int) (hk : okL u8r code) (hm : okL u8r more) : p_laws_FnCodec code more = some true := by
  unfold p_laws_FnCodec
  have hL : p_laws_b10Long code more = some (decide ((code.length : Int) > 1048576) || decide ((more.length : Int) > 1048576)) := by
    unfold p_laws_b10Long
    by_cases h : (code.length : Int) > 1048576
    · rw [if_pos h, decide_eq_true h]; rfl
    · rw [if_neg h, decide_eq_false h]; rfl
  rw [hL, callK_some]
  by_cases h : (code.length : Int) > 1048576
  · rw [if_pos (by simp [h])]
  by_cases h2 : (more.length : Int) > 1048576
  · rw [if_pos (by simp [h2])]
  rw [if_neg (by simp only [Bool.or_eq_true, decide_eq_true_eq]; omega)]
  obtain ⟨n, e1, hn⟩ := drawE_ok code hk.2 (by omega)
  obtain ⟨t, e2, ht⟩ := drawD_ok more hm.2 (by omega)
  obtain ⟨w, e3, hw⟩ := drawS_ok more hm.2 (by omega)
  rw [e1, callK_some]
  by_cases hn0 : n < 0
  · have eN : p_impl_EncodeUvarint n = some ⟨#[]⟩ := by unfold p_impl_EncodeUvarint; rw [if_pos hn0]
    rw [eN, callK_some, if_neg (by omega), e2, callK_some]
    exact pl_mid t ht _ (pl_tail0 more w n e3 hw hn)
  · obtain ⟨k, rfl⟩ := Int.eq_ofNat_of_zero_le (show 0 ≤ n by omega)
    have hlt : k < 9223372036854775808 := by have := hn.2; omega
    have h9n := enc9 hlt
    have hy : (⟨#[133, 1]⟩ : ByteArray) = ofL [133, 1] := rfl
    have eU : p_impl_DecodeUvarint (ofL (enc k) ++ ofL [133, 1]) = some ((k : Int), ((enc k).length : Int), true) := by
      rw [pl_iDec _ (by rw [ByteArray.size_append, size_ofL, size_ofL]; simp; omega), bl_app, bl_ofL, bl_ofL, decU_enc _ hlt]
    rw [pl_iEnc k hlt, callK_some, if_pos (by omega), hy, grd_pos (by rw [size_ofL, size_ofL]; simp; omega), eU, callK_some]
    dsimp only
    rw [if_pos rfl, if_neg (by simp), if_neg (by rw [size_ofL]; simp), e2, callK_some]
    exact pl_mid t ht _ (pl_tail0 more w k e3 hw hn)
theorem f_law (code more : List Int) (hk : okL u8r code) (hm : okL u8r more) : callL E 13 [.d (.arr (code.map rU)), .d (.arr (more.map rU))] [] = some (BO true, []) := L_laws_FnCodec code more (pl_law code more hk hm)

end Go.Proofs.Ytjnhclnnobejgaa.T05

/- FnCleaning: what its functions come to, and the row; conditions: none. -/
import Derived.Test.YtjbddmmammgmjaaT11
import Derived.Test.YtjbddmmammgmjaaEz
import Derived.Test.YtjbddmmammgmjaaRows
import Derived.WalkKit
import Derived.ProofKit
import Derived.OpenShut
import Derived.ShutString
import Derived.ChangeOld
import Derived.Below
import Derived.SizedLaws
namespace Go.Proofs.Ytjbddmmammgmjaa.T11
open Go.Proofs.YtjbddmmammgmjaaE
set_option maxRecDepth 100000
set_option linter.unusedVariables false
set_option linter.unusedSimpArgs false

noncomputable def p_spec_l00In (a_0 : Int) (a_1 : Int) (a_2 : Int) : Option Bool :=
  if a_0 ≥ a_1 then
    some (decide (a_0 ≤ a_2))
  else
    some false

theorem L_spec_l00In (a_0 : Int) (a_1 : Int) (a_2 : Int) {r : Bool} (h : p_spec_l00In a_0 a_1 a_2 = some r) : callL E 112 [IN a_0, IN a_1, IN a_2] ([] : Fo) = some (BO r, ([] : Fo)) := by
  unfold p_spec_l00In at h
  refine callW (fu := Try.f112) rfl rfl rfl NN ?_
  intro lp cl hlp hcl
  conv => lhs; whnf
  cases hb1 : (decide (a_0 ≥ a_1))
  · replace h := ifF h (decF hb1)
    conv => lhs; whnf
    obtain rfl := Option.some.inj h
    show _ = _
    kernel_rfl
  · replace h := ifT h (decT hb1)
    conv => lhs; whnf
    obtain rfl := Option.some.inj h
    show _ = _
    kernel_rfl
theorem pl_l00In (n lo hi : Int) : p_spec_l00In n lo hi = some (inR n lo hi) := by
  unfold p_spec_l00In inR
  split
  · rename_i h; simp [h]
  · rename_i h; simp [h]

noncomputable def p_impl_within (a_0 : Int) (a_1 : Int) (a_2 : Int) : Option Bool :=
  if a_0 ≥ a_1 then
    some (decide (a_0 ≤ a_2))
  else
    some false

theorem L_impl_within (a_0 : Int) (a_1 : Int) (a_2 : Int) {r : Bool} (h : p_impl_within a_0 a_1 a_2 = some r) : callL E 107 [IN a_0, IN a_1, IN a_2] ([] : Fo) = some (BO r, ([] : Fo)) := by
  unfold p_impl_within at h
  refine callW (fu := Try.f107) rfl rfl rfl NN ?_
  intro lp cl hlp hcl
  conv => lhs; whnf
  cases hb1 : (decide (a_0 ≥ a_1))
  · replace h := ifF h (decF hb1)
    conv => lhs; whnf
    obtain rfl := Option.some.inj h
    show _ = _
    kernel_rfl
  · replace h := ifT h (decT hb1)
    conv => lhs; whnf
    obtain rfl := Option.some.inj h
    show _ = _
    kernel_rfl
theorem pl_within (n lo hi : Int) : p_impl_within n lo hi = some (inR n lo hi) := by
  unfold p_impl_within inR
  split
  · rename_i h; simp [h]
  · rename_i h; simp [h]


structure Sl00Src where
  Code : List Int
  At : Int
  Seed : Int
def rSl00Src (x : Sl00Src) : List D := [.arr (x.Code.map rU), dI x.At, .lit (.int .u64 x.Seed)]

noncomputable def p_spec_l00From (a_0 : List Int) : Option Sl00Src :=
  some (⟨a_0, 0, 0⟩ : Sl00Src)

theorem L_spec_l00From (a_0 : List Int) {r : Sl00Src} (h : p_spec_l00From a_0 = some r) : callL E 103 [.d (.arr (a_0.map rU))] ([] : Fo) = some (.bp 0 0, ([some (.box [.d (.arr (r.Code.map rU)), IN r.At, .d (.lit (.int .u64 r.Seed))])] : Fo)) := by
  unfold p_spec_l00From at h
  refine callW (fu := Try.f103) rfl rfl rfl NN ?_
  intro lp cl hlp hcl
  conv => lhs; whnf
  obtain rfl := Option.some.inj h
  show _ = _
  kernel_rfl

noncomputable def p_spec_l00Src_next (a_0 : Sl00Src) : Option (Int × Sl00Src) :=
  if a_0.At < (a_0.Code.length : Int) then
    getK a_0.Code a_0.At fun x1 =>
    if (IntKind.i64.wrap (a_0.At + 1)) ≤ (a_0.Code.length : Int) then
      some ((IntKind.i64.wrap x1), (⟨a_0.Code, (IntKind.i64.wrap (a_0.At + 1)), (IntKind.u64.wrap ((IntKind.u64.wrap ((IntKind.u64.wrap (a_0.Seed * 6364136223846793005)) + (IntKind.u64.wrap (IntKind.i64.wrap x1)))) + 1442695040888963407))⟩ : Sl00Src))
    else
      some ((IntKind.i64.wrap (andK .u64 (Int.fdiv (IntKind.u64.wrap ((IntKind.u64.wrap ((IntKind.u64.wrap (a_0.Seed * 6364136223846793005)) + (IntKind.u64.wrap (IntKind.i64.wrap x1)))) + 1442695040888963407)) (2 ^ (min (Int.toNat 40) IntKind.u64.bits))) 255)), (⟨a_0.Code, (IntKind.i64.wrap (a_0.At + 1)), (IntKind.u64.wrap ((IntKind.u64.wrap ((IntKind.u64.wrap (a_0.Seed * 6364136223846793005)) + (IntKind.u64.wrap (IntKind.i64.wrap x1)))) + 1442695040888963407))⟩ : Sl00Src))
  else
    if (IntKind.i64.wrap (a_0.At + 1)) ≤ (a_0.Code.length : Int) then
      some (0, (⟨a_0.Code, (IntKind.i64.wrap (a_0.At + 1)), (IntKind.u64.wrap ((IntKind.u64.wrap ((IntKind.u64.wrap (a_0.Seed * 6364136223846793005)) + (IntKind.u64.wrap 0))) + 1442695040888963407))⟩ : Sl00Src))
    else
      some ((IntKind.i64.wrap (andK .u64 (Int.fdiv (IntKind.u64.wrap ((IntKind.u64.wrap ((IntKind.u64.wrap (a_0.Seed * 6364136223846793005)) + (IntKind.u64.wrap 0))) + 1442695040888963407)) (2 ^ (min (Int.toNat 40) IntKind.u64.bits))) 255)), (⟨a_0.Code, (IntKind.i64.wrap (a_0.At + 1)), (IntKind.u64.wrap ((IntKind.u64.wrap ((IntKind.u64.wrap (a_0.Seed * 6364136223846793005)) + (IntKind.u64.wrap 0))) + 1442695040888963407))⟩ : Sl00Src))

theorem L_spec_l00Src_next (a_0 : Sl00Src) {r : (Int × Sl00Src)} (h : p_spec_l00Src_next a_0 = some r) : callL E 217 [.bp 0 0] ([some (.box [.d (.arr (a_0.Code.map rU)), IN a_0.At, .d (.lit (.int .u64 a_0.Seed))])] : Fo) = some (IN r.1, ([some (.box [.d (.arr (r.2.Code.map rU)), IN r.2.At, .d (.lit (.int .u64 r.2.Seed))])] : Fo)) := by
  unfold p_spec_l00Src_next at h
  refine callW (fu := Try.f217) rfl rfl rfl NN ?_
  intro lp cl hlp hcl
  conv => lhs; whnf
  try rw [len_of (l := a_0.Code) (r := rU)]
  cases hb2 : (decide (a_0.At < (a_0.Code.length : Int)))
  · replace h := ifF h (decF hb2)
    conv => lhs; whnf
    try rw [len_of (l := a_0.Code) (r := rU)]
    cases hb3 : (decide ((IntKind.i64.wrap (a_0.At + 1)) ≤ (a_0.Code.length : Int)))
    · replace h := ifF h (decF hb3)
      conv => lhs; whnf
      obtain rfl := Option.some.inj h
      show _ = _
      kernel_rfl
    · replace h := ifT h (decT hb3)
      conv => lhs; whnf
      obtain rfl := Option.some.inj h
      show _ = _
      kernel_rfl
  · replace h := ifT h (decT hb2)
    conv => lhs; whnf
    obtain ⟨x1, hq_x1, hx_x1', h⟩ := getK_inv h
    have hx_x1 := get_of (r := rU) hx_x1'
    try (rw [decide_eq_true hq_x1]; conv => lhs; whnf)
    rw [hx_x1]
    conv => lhs; whnf
    rw [hx_x1]
    conv => lhs; whnf
    try rw [len_of (l := a_0.Code) (r := rU)]
    cases hb4 : (decide ((IntKind.i64.wrap (a_0.At + 1)) ≤ (a_0.Code.length : Int)))
    · replace h := ifF h (decF hb4)
      conv => lhs; whnf
      obtain rfl := Option.some.inj h
      show _ = _
      kernel_rfl
    · replace h := ifT h (decT hb4)
      conv => lhs; whnf
      obtain rfl := Option.some.inj h
      show _ = _
      kernel_rfl

noncomputable def p_spec_l00Src_pick (a_0 : Int) (a_1 : Sl00Src) : Option (Int × Sl00Src) :=
  if a_0 ≤ 1 then
    some (0, a_1)
  else
    callK (p_spec_l00Src_next a_1) fun y1 =>
    if a_0 > 200 then
      callK (p_spec_l00Src_next y1.2) fun y2 =>
      grd (a_0 ≠ 0) <|
      some ((Int.tmod (IntKind.i64.wrap ((IntKind.i64.wrap (y1.1 * 256)) + y2.1)) a_0), y2.2)
    else
      grd (a_0 ≠ 0) <|
      some ((Int.tmod y1.1 a_0), y1.2)

theorem L_spec_l00Src_pick (a_0 : Int) (a_1 : Sl00Src) {r : (Int × Sl00Src)} (h : p_spec_l00Src_pick a_0 a_1 = some r) : callL E 122 [.bp 0 0, IN a_0] ([some (.box [.d (.arr (a_1.Code.map rU)), IN a_1.At, .d (.lit (.int .u64 a_1.Seed))])] : Fo) = some (IN r.1, ([some (.box [.d (.arr (r.2.Code.map rU)), IN r.2.At, .d (.lit (.int .u64 r.2.Seed))])] : Fo)) := by
  unfold p_spec_l00Src_pick at h
  refine callW (fu := Try.f122) rfl rfl rfl NN ?_
  intro lp cl hlp hcl
  conv => lhs; whnf
  cases hb3 : (decide (a_0 ≤ 1))
  · replace h := ifF h (decF hb3)
    conv => lhs; whnf
    obtain ⟨y1, h_y1, h⟩ := callK_inv h
    rw [cl_eq hcl (L_spec_l00Src_next a_1 h_y1)]
    rotate_left
    · show _ = _
      kernel_rfl
    · show _ = _
      kernel_rfl
    conv => lhs; whnf
    cases hb4 : (decide (a_0 > 200))
    · replace h := ifF h (decF hb4)
      conv => lhs; whnf
      obtain ⟨hg5, h⟩ := grd_inv h
      rw [rem_run _ _ _ _ hg5]
      conv => lhs; whnf
      obtain rfl := Option.some.inj h
      show _ = _
      kernel_rfl
    · replace h := ifT h (decT hb4)
      conv => lhs; whnf
      obtain ⟨y2, h_y2, h⟩ := callK_inv h
      rw [cl_eq hcl (L_spec_l00Src_next y1.2 h_y2)]
      rotate_left
      · show _ = _
        kernel_rfl
      · show _ = _
        kernel_rfl
      conv => lhs; whnf
      obtain ⟨hg6, h⟩ := grd_inv h
      rw [rem_run _ _ _ _ hg6]
      conv => lhs; whnf
      obtain rfl := Option.some.inj h
      show _ = _
      kernel_rfl
  · replace h := ifT h (decT hb3)
    conv => lhs; whnf
    obtain rfl := Option.some.inj h
    show _ = _
    kernel_rfl
/-- A source of choices from which as many may still be drawn. -/
structure SrcOk (b : Int) (s : Sl00Src) : Prop where
  code : ∀ x ∈ s.Code, 0 ≤ x ∧ x ≤ 255
  len : s.Code.length ≤ 1048576
  lo : 0 ≤ s.At
  hi : s.At + b ≤ 4611686018427387904
theorem SrcOk.le {b c : Int} {s : Sl00Src} (h : SrcOk b s) (hc : c ≤ b) : SrcOk c s := ⟨h.1, h.2, h.3, by have := h.4; omega⟩
theorem nxV_in (sd : Int) : 0 ≤ IntKind.i64.wrap (andK .u64 sd 255) ∧ IntKind.i64.wrap (andK .u64 sd 255) ≤ 255 := by
  unfold andK
  generalize BitVec.ofInt IntKind.u64.bits sd = a
  have h1 : (a &&& BitVec.ofInt IntKind.u64.bits 255).toNat ≤ 255 := by
    rw [BitVec.toNat_and]
    exact Nat.le_trans Nat.and_le_right (by decide)
  generalize (a &&& BitVec.ofInt IntKind.u64.bits 255).toNat = m at h1
  have e1 : IntKind.u64.wrap (m : Int) = m := by unfold IntKind.wrap; simp [IntKind.signed, IntKind.bits]; omega
  rw [e1, wrap_sm _ (by omega) (by omega)]
  omega
theorem next_ok {b : Int} {s : Sl00Src} (hb : 0 ≤ b) (h : SrcOk (b + 1) s) : ∃ v s', p_spec_l00Src_next s = some (v, s') ∧ (0 ≤ v ∧ v ≤ 255) ∧ SrcOk b s' := by
  obtain ⟨h1, h2, h3, h4⟩ := h
  have hw : IntKind.i64.wrap (s.At + 1) = s.At + 1 := wrap_sm _ (by omega) (by omega)
  unfold p_spec_l00Src_next
  rw [hw]
  split
  · rename_i hlt
    rw [getK_in h3 hlt]
    have hb := h1 _ (List.getElem_mem (show s.At.toNat < s.Code.length by omega))
    rw [if_pos (by omega)]
    exact ⟨_, _, rfl, by rw [wrap_sm _ (by omega) (by omega)]; exact hb, h1, h2, by show 0 ≤ s.At + 1; omega, by show s.At + 1 + b ≤ _; omega⟩
  · rename_i hlt
    rw [if_neg (by omega)]
    exact ⟨_, _, rfl, nxV_in _, h1, h2, by show 0 ≤ s.At + 1; omega, by show s.At + 1 + b ≤ _; omega⟩
theorem pick_ok {b : Int} {s : Sl00Src} (m : Int) (hb : 0 ≤ b) (h : SrcOk (b + 2) s) : ∃ r s', p_spec_l00Src_pick m s = some (r, s') ∧ (0 ≤ r ∧ (1 < m → r < m) ∧ (m ≤ 1 → r = 0)) ∧ SrcOk b s' := by
  unfold p_spec_l00Src_pick
  split
  · rename_i hm
    exact ⟨0, s, rfl, ⟨by omega, fun h => by omega, fun _ => rfl⟩, h.le (by omega)⟩
  · rename_i hm
    obtain ⟨v1, s1, e1, b1, o1⟩ := next_ok (b := b + 1) (by omega) (h.le (by omega))
    rw [e1, callK_some]
    split
    · obtain ⟨v2, s2, e2, b2, o2⟩ := next_ok hb o1
      rw [e2, callK_some, grd_pos (by omega)]
      have w1 : IntKind.i64.wrap (v1 * 256) = v1 * 256 := wrap_sm _ (by omega) (by omega)
      have w2 : IntKind.i64.wrap (v1 * 256 + v2) = v1 * 256 + v2 := wrap_sm _ (by omega) (by omega)
      refine ⟨_, _, rfl, ?_, o2⟩
      show 0 ≤ Int.tmod (IntKind.i64.wrap (IntKind.i64.wrap (v1 * 256) + v2)) m ∧ _
      rw [w1, w2]
      exact ⟨Int.tmod_nonneg _ (by omega), fun _ => Int.tmod_lt_of_pos _ (by omega), fun h3 => by omega⟩
    · rw [grd_pos (by omega)]
      exact ⟨_, _, rfl, ⟨Int.tmod_nonneg _ b1.1, fun _ => Int.tmod_lt_of_pos _ (by omega), fun h3 => by omega⟩, o1.le (by omega)⟩
theorem from_ok {code : List Int} (h : ∀ x ∈ code, 0 ≤ x ∧ x ≤ 255) (hl : code.length ≤ 1048576) : ∃ s, p_spec_l00From code = some s ∧ SrcOk 1099511627776 s :=
  ⟨_, rfl, h, hl, by show (0 : Int) ≤ 0; omega, by show (0 : Int) + 1099511627776 ≤ _; omega⟩

noncomputable def p_spec_l00Src_among (a_0 : List Int) (a_1 : Sl00Src) : Option (Int × Sl00Src) :=
  callK (p_spec_l00Src_pick (a_0.length : Int) a_1) fun y1 =>
  getK a_0 y1.1 fun x2 =>
  some (x2, y1.2)

theorem L_spec_l00Src_among (a_0 : List Int) (a_1 : Sl00Src) {r : (Int × Sl00Src)} (h : p_spec_l00Src_among a_0 a_1 = some r) : callL E 105 [.bp 0 0, .d (.arr (a_0.map rI))] ([some (.box [.d (.arr (a_1.Code.map rU)), IN a_1.At, .d (.lit (.int .u64 a_1.Seed))])] : Fo) = some (IN r.1, ([some (.box [.d (.arr (r.2.Code.map rU)), IN r.2.At, .d (.lit (.int .u64 r.2.Seed))])] : Fo)) := by
  unfold p_spec_l00Src_among at h
  refine callW (fu := Try.f105) rfl rfl rfl NN ?_
  intro lp cl hlp hcl
  conv => lhs; whnf
  try rw [len_of (l := a_0) (r := rI)]
  obtain ⟨y1, h_y1, h⟩ := callK_inv h
  rw [cl_eq hcl (L_spec_l00Src_pick (a_0.length : Int) a_1 h_y1)]
  rotate_left
  · show _ = _
    kernel_rfl
  · show _ = _
    kernel_rfl
  conv => lhs; whnf
  obtain ⟨x2, hq_x2, hx_x2', h⟩ := getK_inv h
  have hx_x2 := get_of (r := rI) hx_x2'
  try (rw [decide_eq_true hq_x2]; conv => lhs; whnf)
  rw [hx_x2]
  conv => lhs; whnf
  rw [hx_x2]
  conv => lhs; whnf
  obtain rfl := Option.some.inj h
  show _ = _
  kernel_rfl
theorem among_ok {b : Int} {s : Sl00Src} (l : List Int) (hl : 0 < l.length) (hb : 0 ≤ b) (h : SrcOk (b + 2) s) : ∃ r s', p_spec_l00Src_among l s = some (r, s') ∧ r ∈ l ∧ SrcOk b s' := by
  obtain ⟨r, s1, e1, ⟨b1, b2, b3⟩, o1⟩ := pick_ok (l.length : Int) hb h
  unfold p_spec_l00Src_among
  have hr : r < (l.length : Int) := by
    rcases Nat.lt_or_ge 1 l.length with h | h
    · exact b2 (by omega)
    · have := b3 (by omega); omega
  rw [e1, callK_some, getK_in b1 hr]
  exact ⟨_, _, rfl, List.getElem_mem _, o1⟩

noncomputable def p_spec_l00Src_one (a_0 : Int) (a_1 : Sl00Src) : Option (Bool × Sl00Src) :=
  callK (p_spec_l00Src_pick a_0 a_1) fun y1 =>
  some ((y1.1 == 0), y1.2)

theorem L_spec_l00Src_one (a_0 : Int) (a_1 : Sl00Src) {r : (Bool × Sl00Src)} (h : p_spec_l00Src_one a_0 a_1 = some r) : callL E 130 [.bp 0 0, IN a_0] ([some (.box [.d (.arr (a_1.Code.map rU)), IN a_1.At, .d (.lit (.int .u64 a_1.Seed))])] : Fo) = some (BO r.1, ([some (.box [.d (.arr (r.2.Code.map rU)), IN r.2.At, .d (.lit (.int .u64 r.2.Seed))])] : Fo)) := by
  unfold p_spec_l00Src_one at h
  refine callW (fu := Try.f130) rfl rfl rfl NN ?_
  intro lp cl hlp hcl
  conv => lhs; whnf
  obtain ⟨y1, h_y1, h⟩ := callK_inv h
  rw [cl_eq hcl (L_spec_l00Src_pick a_0 a_1 h_y1)]
  rotate_left
  · show _ = _
    kernel_rfl
  · show _ = _
    kernel_rfl
  conv => lhs; whnf
  obtain rfl := Option.some.inj h
  show _ = _
  kernel_rfl
theorem one_ok {b : Int} {s : Sl00Src} (m : Int) (hb : 0 ≤ b) (h : SrcOk (b + 2) s) : ∃ r s', p_spec_l00Src_one m s = some (r, s') ∧ SrcOk b s' := by
  obtain ⟨r, s1, e1, _, o1⟩ := pick_ok m hb h
  unfold p_spec_l00Src_one
  rw [e1, callK_some]
  exact ⟨_, _, rfl, o1⟩

noncomputable def p_laws_c2Big (a_0 : List Int) (a_1 : List Int) : Option Bool :=
  if (a_0.length : Int) > 1048576 then
    some true
  else
    some (decide ((a_1.length : Int) > 1048576))

theorem L_laws_c2Big (a_0 : List Int) (a_1 : List Int) {r : Bool} (h : p_laws_c2Big a_0 a_1 = some r) : callL E 19 [.d (.arr (a_0.map rU)), .d (.arr (a_1.map rU))] ([] : Fo) = some (BO r, ([] : Fo)) := by
  unfold p_laws_c2Big at h
  refine callW (fu := Try.f19) rfl rfl rfl NN ?_
  intro lp cl hlp hcl
  conv => lhs; whnf
  try rw [len_of (l := a_0) (r := rU)]
  cases hb1 : (decide ((a_0.length : Int) > 1048576))
  · replace h := ifF h (decF hb1)
    conv => lhs; whnf
    try rw [len_of (l := a_1) (r := rU)]
    obtain rfl := Option.some.inj h
    show _ = _
    kernel_rfl
  · replace h := ifT h (decT hb1)
    conv => lhs; whnf
    obtain rfl := Option.some.inj h
    show _ = _
    kernel_rfl
theorem pl_big (code : List Int) : p_laws_c2Big code ([] : List Int) = some (decide ((code.length : Int) > 1048576)) := by
  unfold p_laws_c2Big
  split
  · rename_i h; rw [decide_eq_true h]
  · rename_i h; rw [decide_eq_false h]; rfl

noncomputable def p_spec_l11Draw (a_0 : Sl00Src) : Option ((List BlockStat) × Int × Sl00Src) :=
  callK (p_spec_l00Src_among ([8, 8, 16, 1] : List Int) a_0) fun y1 =>
  callK (p_spec_l00Src_pick 9 y1.2) fun y2 =>
  iterK (fun ((v3, v4, v5) : (Int × Sl00Src × (List BlockStat))) (nx6 : (Int × Sl00Src × (List BlockStat)) → Option _) =>
    if v3 > 0 then
      callK (p_spec_l00Src_pick (IntKind.i64.wrap (y1.1 + 1)) v4) fun y7 =>
      callK (p_spec_l00Src_among ([0, 1, 3, 10, 30, 1000000] : List Int) y7.2) fun y8 =>
      callK (p_spec_l00Src_one 4 y8.2) fun y9 =>
      grd (appOk (v5.length + 1) 24 = true) <|
      nx6 ((IntKind.i64.wrap (v3 - 1)), y9.2, (v5 ++ ([(⟨y7.1, y8.1, (!y9.1)⟩ : BlockStat)] : List BlockStat)))
    else
      callK (p_spec_l00Src_pick 16 v4) fun y10 =>
      if y10.1 = 0 then
        callK (p_spec_l00Src_among ([0, (-1), 640, 641] : List Int) y10.2) fun y11 =>
        some (v5, y11.1, y11.2)
      else
        if y10.1 = 1 then
          grd (appOk (v5.length + 1) 24 = true) <|
          some ((v5 ++ ([(⟨(IntKind.i64.wrap (y1.1 + 1)), 0, false⟩ : BlockStat)] : List BlockStat)), y1.1, y10.2)
        else
          if y10.1 = 2 then
            callK (p_spec_l00Src_among ([(-1), 1000001] : List Int) y10.2) fun y12 =>
            grd (appOk (v5.length + 1) 24 = true) <|
            some ((v5 ++ ([(⟨0, y12.1, false⟩ : BlockStat)] : List BlockStat)), y1.1, y12.2)
          else
            some (v5, y1.1, y10.2)) NN (y2.1, y2.2, ([] : List BlockStat))

theorem L_spec_l11Draw (a_0 : Sl00Src) {r : ((List BlockStat) × Int × Sl00Src)} (h : p_spec_l11Draw a_0 = some r) : callL E 114 [.bp 0 0] ([some (.box [.d (.arr (a_0.Code.map rU)), IN a_0.At, .d (.lit (.int .u64 a_0.Seed))])] : Fo) = some (.tup [.d (.arr (r.1.map rBlockStat)), IN r.2.1], ([some (.box [.d (.arr (r.2.2.Code.map rU)), IN r.2.2.At, .d (.lit (.int .u64 r.2.2.Seed))])] : Fo)) := by
  unfold p_spec_l11Draw at h
  refine callW (fu := Try.f114) rfl rfl rfl NN ?_
  intro lp cl hlp hcl
  conv => lhs; whnf
  obtain ⟨y1, h_y1, h⟩ := callK_inv h
  rw [cl_eq hcl (L_spec_l00Src_among ([8, 8, 16, 1] : List Int) a_0 h_y1)]
  rotate_left
  · show _ = _
    kernel_rfl
  · show _ = _
    kernel_rfl
  conv => lhs; whnf
  obtain ⟨y2, h_y2, h⟩ := callK_inv h
  rw [cl_eq hcl (L_spec_l00Src_pick 9 y1.2 h_y2)]
  rotate_left
  · show _ = _
    kernel_rfl
  · show _ = _
    kernel_rfl
  conv => lhs; whnf
  refine loop_iter hlp (fun ((v3, v4, v5) : (Int × Sl00Src × (List BlockStat))) => ([.bp 0 0, .dead, .dead, .dead, IN y1.1, .sl 1, IN v3] ++ List.replicate 54 .dead : List V)) (fun ((v3, v4, v5) : (Int × Sl00Src × (List BlockStat))) => ([some (.box [.d (.arr (v4.Code.map rU)), IN v4.At, .d (.lit (.int .u64 v4.Seed))]), some (.arr 39 3 (v5.map rBlockStat))] : Fo)) (fun (r : ((List BlockStat) × Int × Sl00Src)) => ((.tup [.d (.arr (r.1.map rBlockStat)), IN r.2.1] : V), ([some (.box [.d (.arr (r.2.2.Code.map rU)), IN r.2.2.At, .d (.lit (.int .u64 r.2.2.Seed))])] : Fo))) ?_ (y2.1, y2.2, ([] : List BlockStat)) _ (fun kk => by kernel_rfl) h
  clear h
  rintro next_nx6 nx6 hnx6 ⟨v3, v4, v5⟩ r h
  try dsimp only at h
  conv => lhs; whnf
  cases hb13 : (decide (v3 > 0))
  · replace h := ifF h (decF hb13)
    conv => lhs; whnf
    obtain ⟨y10, h_y10, h⟩ := callK_inv h
    rw [cl_eq hcl (L_spec_l00Src_pick 16 v4 h_y10)]
    rotate_left
    · show _ = _
      kernel_rfl
    · show _ = _
      kernel_rfl
    conv => lhs; whnf
    cases hb14 : (y10.1 == 0)
    · replace h := ifF h (beqF hb14)
      conv => lhs; whnf
      cases hb15 : (y10.1 == 1)
      · replace h := ifF h (beqF hb15)
        conv => lhs; whnf
        cases hb16 : (y10.1 == 2)
        · replace h := ifF h (beqF hb16)
          conv => lhs; whnf
          obtain rfl := Option.some.inj h
          show _ = _
          kernel_rfl
        · replace h := ifT h (beqT hb16)
          conv => lhs; whnf
          obtain ⟨y12, h_y12, h⟩ := callK_inv h
          rw [cl_eq hcl (L_spec_l00Src_among ([(-1), 1000001] : List Int) y10.2 h_y12)]
          rotate_left
          · show _ = _
            kernel_rfl
          · show _ = _
            kernel_rfl
          conv => lhs; whnf
          obtain ⟨hg17, h⟩ := grd_inv h
          rw [app_eq hg17 ?h1 ?h2]
          case h1 => first | exact rfl | (simp only [List.length_map, List.length_cons, List.length_nil]; done) | (rw [List.length_map]; rfl)
          case h2 => exact rfl
          conv => lhs; whnf
          first | (rw [map_app_of (r := rBlockStat) (l := v5) (m := ([(⟨0, y12.1, false⟩ : BlockStat)] : List BlockStat)) ?hh]; case hh => exact rfl) | skip
          obtain rfl := Option.some.inj h
          show _ = _
          kernel_rfl
      · replace h := ifT h (beqT hb15)
        conv => lhs; whnf
        obtain ⟨hg18, h⟩ := grd_inv h
        rw [app_eq hg18 ?h1 ?h2]
        case h1 => first | exact rfl | (simp only [List.length_map, List.length_cons, List.length_nil]; done) | (rw [List.length_map]; rfl)
        case h2 => exact rfl
        conv => lhs; whnf
        first | (rw [map_app_of (r := rBlockStat) (l := v5) (m := ([(⟨(IntKind.i64.wrap (y1.1 + 1)), 0, false⟩ : BlockStat)] : List BlockStat)) ?hh]; case hh => exact rfl) | skip
        obtain rfl := Option.some.inj h
        show _ = _
        kernel_rfl
    · replace h := ifT h (beqT hb14)
      conv => lhs; whnf
      obtain ⟨y11, h_y11, h⟩ := callK_inv h
      rw [cl_eq hcl (L_spec_l00Src_among ([0, (-1), 640, 641] : List Int) y10.2 h_y11)]
      rotate_left
      · show _ = _
        kernel_rfl
      · show _ = _
        kernel_rfl
      conv => lhs; whnf
      obtain rfl := Option.some.inj h
      show _ = _
      kernel_rfl
  · replace h := ifT h (decT hb13)
    conv => lhs; whnf
    obtain ⟨y7, h_y7, h⟩ := callK_inv h
    rw [cl_eq hcl (L_spec_l00Src_pick (IntKind.i64.wrap (y1.1 + 1)) v4 h_y7)]
    rotate_left
    · show _ = _
      kernel_rfl
    · show _ = _
      kernel_rfl
    conv => lhs; whnf
    obtain ⟨y8, h_y8, h⟩ := callK_inv h
    rw [cl_eq hcl (L_spec_l00Src_among ([0, 1, 3, 10, 30, 1000000] : List Int) y7.2 h_y8)]
    rotate_left
    · show _ = _
      kernel_rfl
    · show _ = _
      kernel_rfl
    conv => lhs; whnf
    obtain ⟨y9, h_y9, h⟩ := callK_inv h
    rw [cl_eq hcl (L_spec_l00Src_one 4 y8.2 h_y9)]
    rotate_left
    · show _ = _
      kernel_rfl
    · show _ = _
      kernel_rfl
    conv => lhs; whnf
    obtain ⟨hg19, h⟩ := grd_inv h
    rw [app_eq hg19 ?h1 ?h2]
    case h1 => first | exact rfl | (simp only [List.length_map, List.length_cons, List.length_nil]; done) | (rw [List.length_map]; rfl)
    case h2 => exact rfl
    conv => lhs; whnf
    first | (rw [map_app_of (r := rBlockStat) (l := v5) (m := ([(⟨y7.1, y8.1, (!y9.1)⟩ : BlockStat)] : List BlockStat)) ?hh]; case hh => exact rfl) | skip
    exact hnx6 _ _ _ _ (fun kk => by kernel_rfl) h

noncomputable def p_spec_DrawGreedyVictim (a_0 : List Int) : Option ((List BlockStat) × Int) :=
  callK (p_spec_l00From a_0) fun y1 =>
  callK (p_spec_l11Draw y1) fun y2 =>
  some (y2.1, y2.2.1)

theorem L_spec_DrawGreedyVictim (a_0 : List Int) {r : ((List BlockStat) × Int)} (h : p_spec_DrawGreedyVictim a_0 = some r) : callL E 20 [.d (.arr (a_0.map rU))] ([] : Fo) = some (.tup [.d (.arr (r.1.map rBlockStat)), IN r.2], ([] : Fo)) := by
  unfold p_spec_DrawGreedyVictim at h
  refine callW (fu := Try.f20) rfl rfl rfl NN ?_
  intro lp cl hlp hcl
  conv => lhs; whnf
  obtain ⟨y1, h_y1, h⟩ := callK_inv h
  rw [cl_eq hcl (L_spec_l00From a_0 h_y1)]
  rotate_left
  · show _ = _
    kernel_rfl
  · show _ = _
    kernel_rfl
  conv => lhs; whnf
  obtain ⟨y2, h_y2, h⟩ := callK_inv h
  rw [cl_eq hcl (L_spec_l11Draw y1 h_y2)]
  rotate_left
  · show _ = _
    kernel_rfl
  · show _ = _
    kernel_rfl
  conv => lhs; whnf
  obtain rfl := Option.some.inj h
  show _ = _
  kernel_rfl

noncomputable def p_impl_ValidStats_c1 (a_0 : BlockStat) (a_1 : Int) : Option Bool :=
  if (inR a_0.Live 0 a_1) = true then
    some (!(inR a_0.Age 0 1000000))
  else
    some true

theorem L_impl_ValidStats_c1 (a_0 : BlockStat) (a_1 : Int) {r : Bool} (h : p_impl_ValidStats_c1 a_0 a_1 = some r) : callL E 213 [.agg [IN a_0.Live, IN a_0.Age, BO a_0.Usable], .bp 0 0] ([some (.box [IN a_1])] : Fo) = some (BO r, ([some (.box [IN a_1])] : Fo)) := by
  unfold p_impl_ValidStats_c1 at h
  refine callW (fu := Try.f213) rfl rfl rfl NN ?_
  intro lp cl hlp hcl
  conv => lhs; whnf
  rw [cl_eq hcl (L_impl_within a_0.Live 0 a_1 (pl_within a_0.Live 0 a_1))]
  rotate_left
  · show _ = _
    kernel_rfl
  · show _ = _
    kernel_rfl
  conv => lhs; whnf
  cases hb1 : (inR a_0.Live 0 a_1)
  · replace h := ifF h (booF hb1)
    conv => lhs; whnf
    obtain rfl := Option.some.inj h
    show _ = _
    kernel_rfl
  · replace h := ifT h hb1
    conv => lhs; whnf
    rw [cl_eq hcl (L_impl_within a_0.Age 0 1000000 (pl_within a_0.Age 0 1000000))]
    rotate_left
    · show _ = _
      kernel_rfl
    · show _ = _
      kernel_rfl
    conv => lhs; whnf
    obtain rfl := Option.some.inj h
    show _ = _
    kernel_rfl

noncomputable def p_slices_IndexFunc_impl_ValidStats_c1 (a_0 : List BlockStat) (a_1 : Int) : Option Int :=
  grd (a_0.length < 4611686018427387904) <|
  forK a_0 (fun (i4 : Nat) x6 (_ : Unit) (nx5 : Unit → Option _) =>
    callK (p_impl_ValidStats_c1 x6 a_1) fun y7 =>
    if y7 = true then
      some (i4 : Int)
    else
      nx5 ()) () (fun (_ : Unit) =>
    some (-1))

theorem L_slices_IndexFunc_impl_ValidStats_c1 (a_0 : List BlockStat) (a_1 : Int) {r : Int} (h : p_slices_IndexFunc_impl_ValidStats_c1 a_0 a_1 = some r) : callL E 265 [.d (.arr (a_0.map rBlockStat)), .clo 213 [.bp 0 0]] ([some (.box [IN a_1])] : Fo) = some (IN r, ([some (.box [IN a_1])] : Fo)) := by
  unfold p_slices_IndexFunc_impl_ValidStats_c1 at h
  refine callW (fu := Try.f265) rfl rfl rfl NN ?_
  intro lp cl hlp hcl
  conv => lhs; whnf
  try rw [len_of (l := a_0) (r := rBlockStat)]
  obtain ⟨hl_i4, h⟩ := grd_inv h
  refine loop_for hlp (l := a_0) hl_i4 (fun (i4 : Nat) (_ : Unit) => ([.d (.arr (a_0.map rBlockStat)), .clo 213 [.bp 0 0], .dead, .dead, .dead, .dead, .dead, IN (a_0.length : Int), IN (i4 : Int)] ++ List.replicate 10 .dead : List V)) (fun (i4 : Nat) (_ : Unit) => ([some (.box [IN a_1])] : Fo)) (fun (r : Int) => ((IN r : V), ([some (.box [IN a_1])] : Fo))) ?_ ?_ () _ (fun kk => by kernel_rfl) h
  · clear h
    rintro next_nx5 nx5 i4 hi_i4 hnx5 ⟨⟩ r h
    try dsimp only at h
    have hn_i4 : i4 < 4611686018427387904 := by omega
    have hx_x6 := get_map rBlockStat a_0 i4 hi_i4
    generalize a_0[i4] = x6 at h hx_x6
    have hd_i4 : (decide ((i4 : Int) < (a_0.length : Int))) = true := decide_eq_true (by omega)
    conv => lhs; whnf
    rw [hd_i4]
    conv => lhs; whnf
    try (rw [decide_eq_true hq_x6]; conv => lhs; whnf)
    rw [hx_x6]
    conv => lhs; whnf
    rw [hx_x6]
    conv => lhs; whnf
    obtain ⟨y7, h_y7, h⟩ := callK_inv h
    rw [cl_eq hcl (L_impl_ValidStats_c1 x6 a_1 h_y7)]
    rotate_left
    · show _ = _
      kernel_rfl
    · show _ = _
      kernel_rfl
    conv => lhs; whnf
    cases hb8 : y7
    · replace h := ifF h (booF hb8)
      conv => lhs; whnf
      rw [wrap_nat i4 (by have := hn_i4; omega)]
      exact hnx5 _ _ _ _ (fun kk => by kernel_rfl) h
    · replace h := ifT h hb8
      conv => lhs; whnf
      obtain rfl := Option.some.inj h
      show _ = _
      kernel_rfl
  · clear h
    rintro next_nx5 ⟨⟩ r h
    try dsimp only at h
    have hd_i4 : (decide ((a_0.length : Int) < (a_0.length : Int))) = false := decide_eq_false (by omega)
    conv => lhs; whnf
    rw [hd_i4]
    conv => lhs; whnf
    obtain rfl := Option.some.inj h
    show _ = _
    kernel_rfl

noncomputable def p_slices_ContainsFunc_impl_ValidStats_c1 (a_0 : List BlockStat) (a_1 : Int) : Option Bool :=
  callK (p_slices_IndexFunc_impl_ValidStats_c1 a_0 a_1) fun y1 =>
  some (decide (y1 ≥ 0))

theorem L_slices_ContainsFunc_impl_ValidStats_c1 (a_0 : List BlockStat) (a_1 : Int) {r : Bool} (h : p_slices_ContainsFunc_impl_ValidStats_c1 a_0 a_1 = some r) : callL E 212 [.d (.arr (a_0.map rBlockStat)), .clo 213 [.bp 0 0]] ([some (.box [IN a_1])] : Fo) = some (BO r, ([some (.box [IN a_1])] : Fo)) := by
  unfold p_slices_ContainsFunc_impl_ValidStats_c1 at h
  refine callW (fu := Try.f212) rfl rfl rfl NN ?_
  intro lp cl hlp hcl
  conv => lhs; whnf
  obtain ⟨y1, h_y1, h⟩ := callK_inv h
  rw [cl_eq hcl (L_slices_IndexFunc_impl_ValidStats_c1 a_0 a_1 h_y1)]
  rotate_left
  · show _ = _
    kernel_rfl
  · show _ = _
    kernel_rfl
  conv => lhs; whnf
  obtain rfl := Option.some.inj h
  show _ = _
  kernel_rfl

noncomputable def p_impl_ValidStats (a_0 : List BlockStat) (a_1 : Int) : Option Bool :=
  if (inR a_1 1 640) = true then
    if (a_0.length : Int) ≤ 640 then
      callK (p_slices_ContainsFunc_impl_ValidStats_c1 a_0 a_1) fun y1 =>
      some (!y1)
    else
      some false
  else
    some false

theorem L_impl_ValidStats (a_0 : List BlockStat) (a_1 : Int) {r : Bool} (h : p_impl_ValidStats a_0 a_1 = some r) : callL E 115 [.d (.arr (a_0.map rBlockStat)), IN a_1] ([] : Fo) = some (BO r, ([] : Fo)) := by
  unfold p_impl_ValidStats at h
  refine callW (fu := Try.f115) rfl rfl rfl NN ?_
  intro lp cl hlp hcl
  conv => lhs; whnf
  rw [cl_eq hcl (L_impl_within a_1 1 640 (pl_within a_1 1 640))]
  rotate_left
  · show _ = _
    kernel_rfl
  · show _ = _
    kernel_rfl
  conv => lhs; whnf
  cases hb2 : (inR a_1 1 640)
  · replace h := ifF h (booF hb2)
    conv => lhs; whnf
    obtain rfl := Option.some.inj h
    show _ = _
    kernel_rfl
  · replace h := ifT h hb2
    conv => lhs; whnf
    try rw [len_of (l := a_0) (r := rBlockStat)]
    cases hb3 : (decide ((a_0.length : Int) ≤ 640))
    · replace h := ifF h (decF hb3)
      conv => lhs; whnf
      obtain rfl := Option.some.inj h
      show _ = _
      kernel_rfl
    · replace h := ifT h (decT hb3)
      conv => lhs; whnf
      obtain ⟨y1, h_y1, h⟩ := callK_inv h
      rw [cl_eq hcl (L_slices_ContainsFunc_impl_ValidStats_c1 a_0 a_1 h_y1)]
      rotate_left
      · show _ = _
        kernel_rfl
      · show _ = _
        kernel_rfl
      conv => lhs; whnf
      obtain rfl := Option.some.inj h
      show _ = _
      kernel_rfl

noncomputable def p_impl_GreedyVictim_c1 (a_0 : BlockStat) (a_1 : BlockStat) : Option Bool :=
  some (decide (a_0.Live < a_1.Live))

theorem L_impl_GreedyVictim_c1 (a_0 : BlockStat) (a_1 : BlockStat) {r : Bool} (h : p_impl_GreedyVictim_c1 a_0 a_1 = some r) : callL E 117 [.agg [IN a_0.Live, IN a_0.Age, BO a_0.Usable], .agg [IN a_1.Live, IN a_1.Age, BO a_1.Usable]] ([] : Fo) = some (BO r, ([] : Fo)) := by
  unfold p_impl_GreedyVictim_c1 at h
  refine callW (fu := Try.f117) rfl rfl rfl NN ?_
  intro lp cl hlp hcl
  conv => lhs; whnf
  obtain rfl := Option.some.inj h
  show _ = _
  kernel_rfl

noncomputable def p_impl_victim_impl_GreedyVictim_c1 (a_0 : List BlockStat) (a_1 : Int) : Option Int :=
  grd (a_0.length < 4611686018427387904) <|
  forK a_0 (fun (i6 : Nat) x9 (v7 : Int) (nx8 : Int → Option _) =>
    if x9.Usable = true then
      if x9.Live < a_1 then
        if v7 < 0 then
          nx8 (i6 : Int)
        else
          getK a_0 v7 fun x10 =>
          callK (p_impl_GreedyVictim_c1 x9 x10) fun y11 =>
          if y11 = true then
            nx8 (i6 : Int)
          else
            nx8 v7
      else
        nx8 v7
    else
      nx8 v7) (-1) (fun (v7 : Int) =>
    some v7)

theorem L_impl_victim_impl_GreedyVictim_c1 (a_0 : List BlockStat) (a_1 : Int) {r : Int} (h : p_impl_victim_impl_GreedyVictim_c1 a_0 a_1 = some r) : callL E 116 [.d (.arr (a_0.map rBlockStat)), IN a_1, .clo 117 []] ([] : Fo) = some (IN r, ([] : Fo)) := by
  unfold p_impl_victim_impl_GreedyVictim_c1 at h
  refine callW (fu := Try.f116) rfl rfl rfl NN ?_
  intro lp cl hlp hcl
  conv => lhs; whnf
  try rw [len_of (l := a_0) (r := rBlockStat)]
  obtain ⟨hl_i6, h⟩ := grd_inv h
  refine loop_for hlp (l := a_0) hl_i6 (fun (i6 : Nat) (v7 : Int) => ([.d (.arr (a_0.map rBlockStat)), IN a_1, .clo 117 [], .dead, .dead, .dead, .dead, IN v7, .dead, .dead, .d (.arr (a_0.map rBlockStat)), IN (a_0.length : Int), IN (i6 : Int)] ++ List.replicate 28 .dead : List V)) (fun (i6 : Nat) (v7 : Int) => ([] : Fo)) (fun (r : Int) => ((IN r : V), ([] : Fo))) ?_ ?_ (-1) _ (fun kk => by kernel_rfl) h
  · clear h
    rintro next_nx8 nx8 i6 hi_i6 hnx8 v7 r h
    try dsimp only at h
    have hn_i6 : i6 < 4611686018427387904 := by omega
    have hx_x9 := get_map rBlockStat a_0 i6 hi_i6
    generalize a_0[i6] = x9 at h hx_x9
    have hd_i6 : (decide ((i6 : Int) < (a_0.length : Int))) = true := decide_eq_true (by omega)
    conv => lhs; whnf
    rw [hd_i6]
    conv => lhs; whnf
    try (rw [decide_eq_true hq_x9]; conv => lhs; whnf)
    rw [hx_x9]
    conv => lhs; whnf
    rw [hx_x9]
    conv => lhs; whnf
    cases hb12 : x9.Usable
    · replace h := ifF h (booF hb12)
      conv => lhs; whnf
      rw [wrap_nat i6 (by have := hn_i6; omega)]
      exact hnx8 _ _ _ _ (fun kk => by kernel_rfl) h
    · replace h := ifT h hb12
      conv => lhs; whnf
      cases hb13 : (decide (x9.Live < a_1))
      · replace h := ifF h (decF hb13)
        conv => lhs; whnf
        rw [wrap_nat i6 (by have := hn_i6; omega)]
        exact hnx8 _ _ _ _ (fun kk => by kernel_rfl) h
      · replace h := ifT h (decT hb13)
        conv => lhs; whnf
        cases hb14 : (decide (v7 < 0))
        · replace h := ifF h (decF hb14)
          conv => lhs; whnf
          obtain ⟨x10, hq_x10, hx_x10', h⟩ := getK_inv h
          have hx_x10 := get_of (r := rBlockStat) hx_x10'
          try (rw [decide_eq_true hq_x10]; conv => lhs; whnf)
          rw [hx_x10]
          conv => lhs; whnf
          rw [hx_x10]
          conv => lhs; whnf
          obtain ⟨y11, h_y11, h⟩ := callK_inv h
          rw [cl_eq hcl (L_impl_GreedyVictim_c1 x9 x10 h_y11)]
          rotate_left
          · show _ = _
            kernel_rfl
          · show _ = _
            kernel_rfl
          conv => lhs; whnf
          cases hb15 : y11
          · replace h := ifF h (booF hb15)
            conv => lhs; whnf
            rw [wrap_nat i6 (by have := hn_i6; omega)]
            exact hnx8 _ _ _ _ (fun kk => by kernel_rfl) h
          · replace h := ifT h hb15
            conv => lhs; whnf
            rw [wrap_nat i6 (by have := hn_i6; omega)]
            exact hnx8 _ _ _ _ (fun kk => by kernel_rfl) h
        · replace h := ifT h (decT hb14)
          conv => lhs; whnf
          rw [wrap_nat i6 (by have := hn_i6; omega)]
          exact hnx8 _ _ _ _ (fun kk => by kernel_rfl) h
  · clear h
    rintro next_nx8 v7 r h
    try dsimp only at h
    have hd_i6 : (decide ((a_0.length : Int) < (a_0.length : Int))) = false := decide_eq_false (by omega)
    conv => lhs; whnf
    rw [hd_i6]
    conv => lhs; whnf
    obtain rfl := Option.some.inj h
    show _ = _
    kernel_rfl

noncomputable def p_impl_GreedyVictim (a_0 : List BlockStat) (a_1 : Int) : Option Int :=
  callK (p_impl_ValidStats a_0 a_1) fun y1 =>
  if y1 = true then
    callK (p_impl_victim_impl_GreedyVictim_c1 a_0 a_1) fun y2 =>
    some y2
  else
    some (-1)

theorem L_impl_GreedyVictim (a_0 : List BlockStat) (a_1 : Int) {r : Int} (h : p_impl_GreedyVictim a_0 a_1 = some r) : callL E 21 [.d (.arr (a_0.map rBlockStat)), IN a_1] ([] : Fo) = some (IN r, ([] : Fo)) := by
  unfold p_impl_GreedyVictim at h
  refine callW (fu := Try.f21) rfl rfl rfl NN ?_
  intro lp cl hlp hcl
  conv => lhs; whnf
  obtain ⟨y1, h_y1, h⟩ := callK_inv h
  rw [cl_eq hcl (L_impl_ValidStats a_0 a_1 h_y1)]
  rotate_left
  · show _ = _
    kernel_rfl
  · show _ = _
    kernel_rfl
  conv => lhs; whnf
  cases hb3 : y1
  · replace h := ifF h (booF hb3)
    conv => lhs; whnf
    obtain rfl := Option.some.inj h
    show _ = _
    kernel_rfl
  · replace h := ifT h hb3
    conv => lhs; whnf
    obtain ⟨y2, h_y2, h⟩ := callK_inv h
    rw [cl_eq hcl (L_impl_victim_impl_GreedyVictim_c1 a_0 a_1 h_y2)]
    rotate_left
    · show _ = _
      kernel_rfl
    · show _ = _
      kernel_rfl
    conv => lhs; whnf
    obtain rfl := Option.some.inj h
    show _ = _
    kernel_rfl

noncomputable def p_impl_CostBenefitVictim_c1 (a_0 : BlockStat) (a_1 : BlockStat) (a_2 : Int) : Option Bool :=
  some (decide ((IntKind.i64.wrap ((IntKind.i64.wrap ((IntKind.i64.wrap (a_2 - a_0.Live)) * a_0.Age)) * (IntKind.i64.wrap (a_2 + a_1.Live)))) > (IntKind.i64.wrap ((IntKind.i64.wrap ((IntKind.i64.wrap (a_2 - a_1.Live)) * a_1.Age)) * (IntKind.i64.wrap (a_2 + a_0.Live))))))

theorem L_impl_CostBenefitVictim_c1 (a_0 : BlockStat) (a_1 : BlockStat) (a_2 : Int) {r : Bool} (h : p_impl_CostBenefitVictim_c1 a_0 a_1 a_2 = some r) : callL E 118 [.agg [IN a_0.Live, IN a_0.Age, BO a_0.Usable], .agg [IN a_1.Live, IN a_1.Age, BO a_1.Usable], .rp [[dI a_2]] 0 0] ([] : Fo) = some (BO r, ([] : Fo)) := by
  unfold p_impl_CostBenefitVictim_c1 at h
  refine callW (fu := Try.f118) rfl rfl rfl NN ?_
  intro lp cl hlp hcl
  conv => lhs; whnf
  obtain rfl := Option.some.inj h
  show _ = _
  kernel_rfl

noncomputable def p_impl_victim_impl_CostBenefitVictim_c1 (a_0 : List BlockStat) (a_1 : Int) (a_2 : Int) : Option Int :=
  grd (a_0.length < 4611686018427387904) <|
  forK a_0 (fun (i6 : Nat) x9 (v7 : Int) (nx8 : Int → Option _) =>
    if x9.Usable = true then
      if x9.Live < a_1 then
        if v7 < 0 then
          nx8 (i6 : Int)
        else
          getK a_0 v7 fun x10 =>
          callK (p_impl_CostBenefitVictim_c1 x9 x10 a_2) fun y11 =>
          if y11 = true then
            nx8 (i6 : Int)
          else
            nx8 v7
      else
        nx8 v7
    else
      nx8 v7) (-1) (fun (v7 : Int) =>
    some v7)

theorem L_impl_victim_impl_CostBenefitVictim_c1 (a_0 : List BlockStat) (a_1 : Int) (a_2 : Int) {r : Int} (h : p_impl_victim_impl_CostBenefitVictim_c1 a_0 a_1 a_2 = some r) : callL E 116 [.d (.arr (a_0.map rBlockStat)), IN a_1, .clo 118 [.bp 0 0]] ([some (.box [IN a_2])] : Fo) = some (IN r, ([some (.box [IN a_2])] : Fo)) := by
  unfold p_impl_victim_impl_CostBenefitVictim_c1 at h
  refine callW (fu := Try.f116) rfl rfl rfl NN ?_
  intro lp cl hlp hcl
  conv => lhs; whnf
  try rw [len_of (l := a_0) (r := rBlockStat)]
  obtain ⟨hl_i6, h⟩ := grd_inv h
  refine loop_for hlp (l := a_0) hl_i6 (fun (i6 : Nat) (v7 : Int) => ([.d (.arr (a_0.map rBlockStat)), IN a_1, .clo 118 [.bp 0 0], .dead, .dead, .dead, .dead, IN v7, .dead, .dead, .d (.arr (a_0.map rBlockStat)), IN (a_0.length : Int), IN (i6 : Int)] ++ List.replicate 28 .dead : List V)) (fun (i6 : Nat) (v7 : Int) => ([some (.box [IN a_2])] : Fo)) (fun (r : Int) => ((IN r : V), ([some (.box [IN a_2])] : Fo))) ?_ ?_ (-1) _ (fun kk => by kernel_rfl) h
  · clear h
    rintro next_nx8 nx8 i6 hi_i6 hnx8 v7 r h
    try dsimp only at h
    have hn_i6 : i6 < 4611686018427387904 := by omega
    have hx_x9 := get_map rBlockStat a_0 i6 hi_i6
    generalize a_0[i6] = x9 at h hx_x9
    have hd_i6 : (decide ((i6 : Int) < (a_0.length : Int))) = true := decide_eq_true (by omega)
    conv => lhs; whnf
    rw [hd_i6]
    conv => lhs; whnf
    try (rw [decide_eq_true hq_x9]; conv => lhs; whnf)
    rw [hx_x9]
    conv => lhs; whnf
    rw [hx_x9]
    conv => lhs; whnf
    cases hb12 : x9.Usable
    · replace h := ifF h (booF hb12)
      conv => lhs; whnf
      rw [wrap_nat i6 (by have := hn_i6; omega)]
      exact hnx8 _ _ _ _ (fun kk => by kernel_rfl) h
    · replace h := ifT h hb12
      conv => lhs; whnf
      cases hb13 : (decide (x9.Live < a_1))
      · replace h := ifF h (decF hb13)
        conv => lhs; whnf
        rw [wrap_nat i6 (by have := hn_i6; omega)]
        exact hnx8 _ _ _ _ (fun kk => by kernel_rfl) h
      · replace h := ifT h (decT hb13)
        conv => lhs; whnf
        cases hb14 : (decide (v7 < 0))
        · replace h := ifF h (decF hb14)
          conv => lhs; whnf
          obtain ⟨x10, hq_x10, hx_x10', h⟩ := getK_inv h
          have hx_x10 := get_of (r := rBlockStat) hx_x10'
          try (rw [decide_eq_true hq_x10]; conv => lhs; whnf)
          rw [hx_x10]
          conv => lhs; whnf
          rw [hx_x10]
          conv => lhs; whnf
          obtain ⟨y11, h_y11, h⟩ := callK_inv h
          rw [cl_eq hcl (L_impl_CostBenefitVictim_c1 x9 x10 a_2 h_y11)]
          rotate_left
          · show _ = _
            kernel_rfl
          · show _ = _
            kernel_rfl
          conv => lhs; whnf
          cases hb15 : y11
          · replace h := ifF h (booF hb15)
            conv => lhs; whnf
            rw [wrap_nat i6 (by have := hn_i6; omega)]
            exact hnx8 _ _ _ _ (fun kk => by kernel_rfl) h
          · replace h := ifT h hb15
            conv => lhs; whnf
            rw [wrap_nat i6 (by have := hn_i6; omega)]
            exact hnx8 _ _ _ _ (fun kk => by kernel_rfl) h
        · replace h := ifT h (decT hb14)
          conv => lhs; whnf
          rw [wrap_nat i6 (by have := hn_i6; omega)]
          exact hnx8 _ _ _ _ (fun kk => by kernel_rfl) h
  · clear h
    rintro next_nx8 v7 r h
    try dsimp only at h
    have hd_i6 : (decide ((a_0.length : Int) < (a_0.length : Int))) = false := decide_eq_false (by omega)
    conv => lhs; whnf
    rw [hd_i6]
    conv => lhs; whnf
    obtain rfl := Option.some.inj h
    show _ = _
    kernel_rfl

noncomputable def p_impl_CostBenefitVictim (a_0 : List BlockStat) (a_1 : Int) : Option Int :=
  callK (p_impl_ValidStats a_0 a_1) fun y1 =>
  if y1 = true then
    callK (p_impl_victim_impl_CostBenefitVictim_c1 a_0 a_1 a_1) fun y2 =>
    some y2
  else
    some (-1)

theorem L_impl_CostBenefitVictim (a_0 : List BlockStat) (a_1 : Int) {r : Int} (h : p_impl_CostBenefitVictim a_0 a_1 = some r) : callL E 22 [.d (.arr (a_0.map rBlockStat)), IN a_1] ([] : Fo) = some (IN r, ([] : Fo)) := by
  unfold p_impl_CostBenefitVictim at h
  refine callW (fu := Try.f22) rfl rfl rfl NN ?_
  intro lp cl hlp hcl
  conv => lhs; whnf
  obtain ⟨y1, h_y1, h⟩ := callK_inv h
  rw [cl_eq hcl (L_impl_ValidStats a_0 a_1 h_y1)]
  rotate_left
  · show _ = _
    kernel_rfl
  · show _ = _
    kernel_rfl
  conv => lhs; whnf
  cases hb3 : y1
  · replace h := ifF h (booF hb3)
    conv => lhs; whnf
    obtain rfl := Option.some.inj h
    show _ = _
    kernel_rfl
  · replace h := ifT h hb3
    conv => lhs; whnf
    obtain ⟨y2, h_y2, h⟩ := callK_inv h
    rw [cl_eq hcl (L_impl_victim_impl_CostBenefitVictim_c1 a_0 a_1 a_1 h_y2)]
    rotate_left
    · show _ = _
      kernel_rfl
    · show _ = _
      kernel_rfl
    conv => lhs; whnf
    obtain rfl := Option.some.inj h
    show _ = _
    kernel_rfl

noncomputable def p_spec_l11Ok (a_0 : List BlockStat) (a_1 : Int) : Option Bool :=
  if (inR a_1 1 640) = true then
    if (a_0.length : Int) > 640 then
      some false
    else
      grd (a_0.length < 4611686018427387904) <|
      forK a_0 (fun (i3 : Nat) x5 (_ : Unit) (nx4 : Unit → Option _) =>
        if (inR x5.Live 0 a_1) = true then
          if (inR x5.Age 0 1000000) = true then
            nx4 ()
          else
            some false
        else
          some false) () (fun (_ : Unit) =>
        some true)
  else
    some false

theorem L_spec_l11Ok (a_0 : List BlockStat) (a_1 : Int) {r : Bool} (h : p_spec_l11Ok a_0 a_1 = some r) : callL E 214 [.d (.arr (a_0.map rBlockStat)), IN a_1] ([] : Fo) = some (BO r, ([] : Fo)) := by
  unfold p_spec_l11Ok at h
  refine callW (fu := Try.f214) rfl rfl rfl NN ?_
  intro lp cl hlp hcl
  conv => lhs; whnf
  rw [cl_eq hcl (L_spec_l00In a_1 1 640 (pl_l00In a_1 1 640))]
  rotate_left
  · show _ = _
    kernel_rfl
  · show _ = _
    kernel_rfl
  conv => lhs; whnf
  cases hb6 : (inR a_1 1 640)
  · replace h := ifF h (booF hb6)
    conv => lhs; whnf
    obtain rfl := Option.some.inj h
    show _ = _
    kernel_rfl
  · replace h := ifT h hb6
    conv => lhs; whnf
    try rw [len_of (l := a_0) (r := rBlockStat)]
    cases hb7 : (decide ((a_0.length : Int) > 640))
    · replace h := ifF h (decF hb7)
      conv => lhs; whnf
      obtain ⟨hl_i3, h⟩ := grd_inv h
      refine loop_for hlp (l := a_0) hl_i3 (fun (i3 : Nat) (_ : Unit) => ([.d (.arr (a_0.map rBlockStat)), IN a_1, .dead, .dead, .dead, IN (i3 : Int)] ++ List.replicate 31 .dead : List V)) (fun (i3 : Nat) (_ : Unit) => ([] : Fo)) (fun (r : Bool) => ((BO r : V), ([] : Fo))) ?_ ?_ () _ (fun kk => by kernel_rfl) h
      · clear h
        rintro next_nx4 nx4 i3 hi_i3 hnx4 ⟨⟩ r h
        try dsimp only at h
        have hn_i3 : i3 < 4611686018427387904 := by omega
        have hx_x5 := get_map rBlockStat a_0 i3 hi_i3
        generalize a_0[i3] = x5 at h hx_x5
        have hd_i3 : (decide ((i3 : Int) < (a_0.length : Int))) = true := decide_eq_true (by omega)
        conv => lhs; whnf
        try rw [len_of (l := a_0) (r := rBlockStat)]
        rw [hd_i3]
        conv => lhs; whnf
        try (rw [decide_eq_true hq_x5]; conv => lhs; whnf)
        rw [hx_x5]
        conv => lhs; whnf
        rw [hx_x5]
        conv => lhs; whnf
        rw [cl_eq hcl (L_spec_l00In x5.Live 0 a_1 (pl_l00In x5.Live 0 a_1))]
        rotate_left
        · show _ = _
          kernel_rfl
        · show _ = _
          kernel_rfl
        conv => lhs; whnf
        cases hb8 : (inR x5.Live 0 a_1)
        · replace h := ifF h (booF hb8)
          conv => lhs; whnf
          obtain rfl := Option.some.inj h
          show _ = _
          kernel_rfl
        · replace h := ifT h hb8
          conv => lhs; whnf
          try (rw [decide_eq_true hq_x5]; conv => lhs; whnf)
          rw [hx_x5]
          conv => lhs; whnf
          rw [hx_x5]
          conv => lhs; whnf
          rw [cl_eq hcl (L_spec_l00In x5.Age 0 1000000 (pl_l00In x5.Age 0 1000000))]
          rotate_left
          · show _ = _
            kernel_rfl
          · show _ = _
            kernel_rfl
          conv => lhs; whnf
          cases hb9 : (inR x5.Age 0 1000000)
          · replace h := ifF h (booF hb9)
            conv => lhs; whnf
            obtain rfl := Option.some.inj h
            show _ = _
            kernel_rfl
          · replace h := ifT h hb9
            conv => lhs; whnf
            rw [wrap_nat i3 (by have := hn_i3; omega)]
            exact hnx4 _ _ _ _ (fun kk => by kernel_rfl) h
      · clear h
        rintro next_nx4 ⟨⟩ r h
        try dsimp only at h
        have hd_i3 : (decide ((a_0.length : Int) < (a_0.length : Int))) = false := decide_eq_false (by omega)
        conv => lhs; whnf
        try rw [len_of (l := a_0) (r := rBlockStat)]
        rw [hd_i3]
        conv => lhs; whnf
        obtain rfl := Option.some.inj h
        show _ = _
        kernel_rfl
    · replace h := ifT h (decT hb7)
      conv => lhs; whnf
      obtain rfl := Option.some.inj h
      show _ = _
      kernel_rfl

noncomputable def p_spec_l11Better (a_0 : Int) (a_1 : BlockStat) (a_2 : BlockStat) (a_3 : Int) : Option Bool :=
  if a_0 = 1 then
    some (decide (a_1.Live < a_2.Live))
  else
    some (decide ((IntKind.i64.wrap ((IntKind.i64.wrap ((IntKind.i64.wrap (a_3 - a_1.Live)) * a_1.Age)) * (IntKind.i64.wrap (a_3 + a_2.Live)))) > (IntKind.i64.wrap ((IntKind.i64.wrap ((IntKind.i64.wrap (a_3 - a_2.Live)) * a_2.Age)) * (IntKind.i64.wrap (a_3 + a_1.Live))))))

theorem L_spec_l11Better (a_0 : Int) (a_1 : BlockStat) (a_2 : BlockStat) (a_3 : Int) {r : Bool} (h : p_spec_l11Better a_0 a_1 a_2 a_3 = some r) : callL E 266 [IN a_0, .agg [IN a_1.Live, IN a_1.Age, BO a_1.Usable], .agg [IN a_2.Live, IN a_2.Age, BO a_2.Usable], IN a_3] ([] : Fo) = some (BO r, ([] : Fo)) := by
  unfold p_spec_l11Better at h
  refine callW (fu := Try.f266) rfl rfl rfl NN ?_
  intro lp cl hlp hcl
  conv => lhs; whnf
  cases hb1 : (a_0 == 1)
  · replace h := ifF h (beqF hb1)
    conv => lhs; whnf
    obtain rfl := Option.some.inj h
    show _ = _
    kernel_rfl
  · replace h := ifT h (beqT hb1)
    conv => lhs; whnf
    obtain rfl := Option.some.inj h
    show _ = _
    kernel_rfl

noncomputable def p_spec_l11Victim (a_0 : Int) (a_1 : List BlockStat) (a_2 : Int) : Option Int :=
  grd (a_1.length < 4611686018427387904) <|
  forK a_1 (fun (i6 : Nat) x9 (v7 : Int) (nx8 : Int → Option _) =>
    if x9.Usable = true then
      if x9.Live ≥ a_2 then
        nx8 v7
      else
        if v7 < 0 then
          nx8 (i6 : Int)
        else
          getK a_1 v7 fun x10 =>
          callK (p_spec_l11Better a_0 x9 x10 a_2) fun y11 =>
          if y11 = true then
            nx8 (i6 : Int)
          else
            nx8 v7
    else
      nx8 v7) (-1) (fun (v7 : Int) =>
    some v7)

theorem L_spec_l11Victim (a_0 : Int) (a_1 : List BlockStat) (a_2 : Int) {r : Int} (h : p_spec_l11Victim a_0 a_1 a_2 = some r) : callL E 215 [IN a_0, .d (.arr (a_1.map rBlockStat)), IN a_2] ([] : Fo) = some (IN r, ([] : Fo)) := by
  unfold p_spec_l11Victim at h
  refine callW (fu := Try.f215) rfl rfl rfl NN ?_
  intro lp cl hlp hcl
  conv => lhs; whnf
  obtain ⟨hl_i6, h⟩ := grd_inv h
  refine loop_for hlp (l := a_1) hl_i6 (fun (i6 : Nat) (v7 : Int) => ([IN a_0, .d (.arr (a_1.map rBlockStat)), IN a_2, .dead, .dead, .dead, .dead, IN v7, IN (i6 : Int)] ++ List.replicate 38 .dead : List V)) (fun (i6 : Nat) (v7 : Int) => ([] : Fo)) (fun (r : Int) => ((IN r : V), ([] : Fo))) ?_ ?_ (-1) _ (fun kk => by kernel_rfl) h
  · clear h
    rintro next_nx8 nx8 i6 hi_i6 hnx8 v7 r h
    try dsimp only at h
    have hn_i6 : i6 < 4611686018427387904 := by omega
    have hx_x9 := get_map rBlockStat a_1 i6 hi_i6
    generalize a_1[i6] = x9 at h hx_x9
    have hd_i6 : (decide ((i6 : Int) < (a_1.length : Int))) = true := decide_eq_true (by omega)
    conv => lhs; whnf
    try rw [len_of (l := a_1) (r := rBlockStat)]
    rw [hd_i6]
    conv => lhs; whnf
    try (rw [decide_eq_true hq_x9]; conv => lhs; whnf)
    rw [hx_x9]
    conv => lhs; whnf
    rw [hx_x9]
    conv => lhs; whnf
    cases hb12 : x9.Usable
    · replace h := ifF h (booF hb12)
      conv => lhs; whnf
      rw [wrap_nat i6 (by have := hn_i6; omega)]
      exact hnx8 _ _ _ _ (fun kk => by kernel_rfl) h
    · replace h := ifT h hb12
      conv => lhs; whnf
      try (rw [decide_eq_true hq_x9]; conv => lhs; whnf)
      rw [hx_x9]
      conv => lhs; whnf
      rw [hx_x9]
      conv => lhs; whnf
      cases hb13 : (decide (x9.Live ≥ a_2))
      · replace h := ifF h (decF hb13)
        conv => lhs; whnf
        cases hb14 : (decide (v7 < 0))
        · replace h := ifF h (decF hb14)
          conv => lhs; whnf
          try (rw [decide_eq_true hq_x9]; conv => lhs; whnf)
          rw [hx_x9]
          conv => lhs; whnf
          rw [hx_x9]
          conv => lhs; whnf
          obtain ⟨x10, hq_x10, hx_x10', h⟩ := getK_inv h
          have hx_x10 := get_of (r := rBlockStat) hx_x10'
          try (rw [decide_eq_true hq_x10]; conv => lhs; whnf)
          rw [hx_x10]
          conv => lhs; whnf
          rw [hx_x10]
          conv => lhs; whnf
          obtain ⟨y11, h_y11, h⟩ := callK_inv h
          rw [cl_eq hcl (L_spec_l11Better a_0 x9 x10 a_2 h_y11)]
          rotate_left
          · show _ = _
            kernel_rfl
          · show _ = _
            kernel_rfl
          conv => lhs; whnf
          cases hb15 : y11
          · replace h := ifF h (booF hb15)
            conv => lhs; whnf
            rw [wrap_nat i6 (by have := hn_i6; omega)]
            exact hnx8 _ _ _ _ (fun kk => by kernel_rfl) h
          · replace h := ifT h hb15
            conv => lhs; whnf
            rw [wrap_nat i6 (by have := hn_i6; omega)]
            exact hnx8 _ _ _ _ (fun kk => by kernel_rfl) h
        · replace h := ifT h (decT hb14)
          conv => lhs; whnf
          rw [wrap_nat i6 (by have := hn_i6; omega)]
          exact hnx8 _ _ _ _ (fun kk => by kernel_rfl) h
      · replace h := ifT h (decT hb13)
        conv => lhs; whnf
        rw [wrap_nat i6 (by have := hn_i6; omega)]
        exact hnx8 _ _ _ _ (fun kk => by kernel_rfl) h
  · clear h
    rintro next_nx8 v7 r h
    try dsimp only at h
    have hd_i6 : (decide ((a_1.length : Int) < (a_1.length : Int))) = false := decide_eq_false (by omega)
    conv => lhs; whnf
    try rw [len_of (l := a_1) (r := rBlockStat)]
    rw [hd_i6]
    conv => lhs; whnf
    obtain rfl := Option.some.inj h
    show _ = _
    kernel_rfl

noncomputable def p_spec_PickVictim (a_0 : Int) (a_1 : List BlockStat) (a_2 : Int) : Option Int :=
  if (inR a_0 1 2) = true then
    callK (p_spec_l11Ok a_1 a_2) fun y1 =>
    if y1 = true then
      callK (p_spec_l11Victim a_0 a_1 a_2) fun y2 =>
      some y2
    else
      some (-1)
  else
    some (-1)

theorem L_spec_PickVictim (a_0 : Int) (a_1 : List BlockStat) (a_2 : Int) {r : Int} (h : p_spec_PickVictim a_0 a_1 a_2 = some r) : callL E 119 [IN a_0, .d (.arr (a_1.map rBlockStat)), IN a_2] ([] : Fo) = some (IN r, ([] : Fo)) := by
  unfold p_spec_PickVictim at h
  refine callW (fu := Try.f119) rfl rfl rfl NN ?_
  intro lp cl hlp hcl
  conv => lhs; whnf
  rw [cl_eq hcl (L_spec_l00In a_0 1 2 (pl_l00In a_0 1 2))]
  rotate_left
  · show _ = _
    kernel_rfl
  · show _ = _
    kernel_rfl
  conv => lhs; whnf
  cases hb3 : (inR a_0 1 2)
  · replace h := ifF h (booF hb3)
    conv => lhs; whnf
    obtain rfl := Option.some.inj h
    show _ = _
    kernel_rfl
  · replace h := ifT h hb3
    conv => lhs; whnf
    obtain ⟨y1, h_y1, h⟩ := callK_inv h
    rw [cl_eq hcl (L_spec_l11Ok a_1 a_2 h_y1)]
    rotate_left
    · show _ = _
      kernel_rfl
    · show _ = _
      kernel_rfl
    conv => lhs; whnf
    cases hb4 : y1
    · replace h := ifF h (booF hb4)
      conv => lhs; whnf
      obtain rfl := Option.some.inj h
      show _ = _
      kernel_rfl
    · replace h := ifT h hb4
      conv => lhs; whnf
      obtain ⟨y2, h_y2, h⟩ := callK_inv h
      rw [cl_eq hcl (L_spec_l11Victim a_0 a_1 a_2 h_y2)]
      rotate_left
      · show _ = _
        kernel_rfl
      · show _ = _
        kernel_rfl
      conv => lhs; whnf
      obtain rfl := Option.some.inj h
      show _ = _
      kernel_rfl

noncomputable def p_spec_GreedyVictim (a_0 : List BlockStat) (a_1 : Int) : Option Int :=
  callK (p_spec_PickVictim 1 a_0 a_1) fun y1 =>
  some y1

theorem L_spec_GreedyVictim (a_0 : List BlockStat) (a_1 : Int) {r : Int} (h : p_spec_GreedyVictim a_0 a_1 = some r) : callL E 23 [.d (.arr (a_0.map rBlockStat)), IN a_1] ([] : Fo) = some (IN r, ([] : Fo)) := by
  unfold p_spec_GreedyVictim at h
  refine callW (fu := Try.f23) rfl rfl rfl NN ?_
  intro lp cl hlp hcl
  conv => lhs; whnf
  obtain ⟨y1, h_y1, h⟩ := callK_inv h
  rw [cl_eq hcl (L_spec_PickVictim 1 a_0 a_1 h_y1)]
  rotate_left
  · show _ = _
    kernel_rfl
  · show _ = _
    kernel_rfl
  conv => lhs; whnf
  obtain rfl := Option.some.inj h
  show _ = _
  kernel_rfl

noncomputable def p_spec_CostBenefitVictim (a_0 : List BlockStat) (a_1 : Int) : Option Int :=
  callK (p_spec_PickVictim 2 a_0 a_1) fun y1 =>
  some y1

theorem L_spec_CostBenefitVictim (a_0 : List BlockStat) (a_1 : Int) {r : Int} (h : p_spec_CostBenefitVictim a_0 a_1 = some r) : callL E 24 [.d (.arr (a_0.map rBlockStat)), IN a_1] ([] : Fo) = some (IN r, ([] : Fo)) := by
  unfold p_spec_CostBenefitVictim at h
  refine callW (fu := Try.f24) rfl rfl rfl NN ?_
  intro lp cl hlp hcl
  conv => lhs; whnf
  obtain ⟨y1, h_y1, h⟩ := callK_inv h
  rw [cl_eq hcl (L_spec_PickVictim 2 a_0 a_1 h_y1)]
  rotate_left
  · show _ = _
    kernel_rfl
  · show _ = _
    kernel_rfl
  conv => lhs; whnf
  obtain rfl := Option.some.inj h
  show _ = _
  kernel_rfl

noncomputable def p_impl_AverageLive (a_0 : List BlockStat) (a_1 : Int) : Option (Int × Int) :=
  callK (p_impl_ValidStats a_0 a_1) fun y1 =>
  if y1 = true then
    grd (a_0.length < 4611686018427387904) <|
    forK a_0 (fun (i6 : Nat) x10 ((v7, v8) : (Int × Int)) (nx9 : (Int × Int) → Option _) =>
      if x10.Usable = true then
        nx9 ((IntKind.i64.wrap (v7 + x10.Live)), (IntKind.i64.wrap (v8 + 1)))
      else
        nx9 (v7, v8)) (0, 0) (fun ((v7, v8) : (Int × Int)) =>
      some (v7, v8))
  else
    some (0, 0)

theorem L_impl_AverageLive (a_0 : List BlockStat) (a_1 : Int) {r : (Int × Int)} (h : p_impl_AverageLive a_0 a_1 = some r) : callL E 25 [.d (.arr (a_0.map rBlockStat)), IN a_1] ([] : Fo) = some (.tup [IN r.1, IN r.2], ([] : Fo)) := by
  unfold p_impl_AverageLive at h
  refine callW (fu := Try.f25) rfl rfl rfl NN ?_
  intro lp cl hlp hcl
  conv => lhs; whnf
  obtain ⟨y1, h_y1, h⟩ := callK_inv h
  rw [cl_eq hcl (L_impl_ValidStats a_0 a_1 h_y1)]
  rotate_left
  · show _ = _
    kernel_rfl
  · show _ = _
    kernel_rfl
  conv => lhs; whnf
  cases hb11 : y1
  · replace h := ifF h (booF hb11)
    conv => lhs; whnf
    obtain rfl := Option.some.inj h
    show _ = _
    kernel_rfl
  · replace h := ifT h hb11
    conv => lhs; whnf
    try rw [len_of (l := a_0) (r := rBlockStat)]
    obtain ⟨hl_i6, h⟩ := grd_inv h
    refine loop_for hlp (l := a_0) hl_i6 (fun (i6 : Nat) ((v7, v8) : (Int × Int)) => ([.dead, .dead, .dead, .dead, .dead, .dead, IN v7, IN v8, .dead, .dead, .dead, .dead, .dead, .dead, .d (.arr (a_0.map rBlockStat)), IN (a_0.length : Int), IN (i6 : Int)] ++ List.replicate 14 .dead : List V)) (fun (i6 : Nat) ((v7, v8) : (Int × Int)) => ([] : Fo)) (fun (r : (Int × Int)) => ((.tup [IN r.1, IN r.2] : V), ([] : Fo))) ?_ ?_ (0, 0) _ (fun kk => by kernel_rfl) h
    · clear h
      rintro next_nx9 nx9 i6 hi_i6 hnx9 ⟨v7, v8⟩ r h
      try dsimp only at h
      have hn_i6 : i6 < 4611686018427387904 := by omega
      have hx_x10 := get_map rBlockStat a_0 i6 hi_i6
      generalize a_0[i6] = x10 at h hx_x10
      have hd_i6 : (decide ((i6 : Int) < (a_0.length : Int))) = true := decide_eq_true (by omega)
      conv => lhs; whnf
      rw [hd_i6]
      conv => lhs; whnf
      try (rw [decide_eq_true hq_x10]; conv => lhs; whnf)
      rw [hx_x10]
      conv => lhs; whnf
      rw [hx_x10]
      conv => lhs; whnf
      cases hb12 : x10.Usable
      · replace h := ifF h (booF hb12)
        conv => lhs; whnf
        rw [wrap_nat i6 (by have := hn_i6; omega)]
        exact hnx9 _ _ _ _ (fun kk => by kernel_rfl) h
      · replace h := ifT h hb12
        conv => lhs; whnf
        rw [wrap_nat i6 (by have := hn_i6; omega)]
        exact hnx9 _ _ _ _ (fun kk => by kernel_rfl) h
    · clear h
      rintro next_nx9 ⟨v7, v8⟩ r h
      try dsimp only at h
      have hd_i6 : (decide ((a_0.length : Int) < (a_0.length : Int))) = false := decide_eq_false (by omega)
      conv => lhs; whnf
      rw [hd_i6]
      conv => lhs; whnf
      obtain rfl := Option.some.inj h
      show _ = _
      kernel_rfl

noncomputable def p_impl_isIndex (a_0 : Int) (a_1 : Int) : Option Bool :=
  some (inR a_0 0 (IntKind.i64.wrap (a_1 - 1)))

theorem L_impl_isIndex (a_0 : Int) (a_1 : Int) {r : Bool} (h : p_impl_isIndex a_0 a_1 = some r) : callL E 120 [IN a_0, IN a_1] ([] : Fo) = some (BO r, ([] : Fo)) := by
  unfold p_impl_isIndex at h
  refine callW (fu := Try.f120) rfl rfl rfl NN ?_
  intro lp cl hlp hcl
  conv => lhs; whnf
  rw [cl_eq hcl (L_impl_within a_0 0 (IntKind.i64.wrap (a_1 - 1)) (pl_within a_0 0 (IntKind.i64.wrap (a_1 - 1))))]
  rotate_left
  · show _ = _
    kernel_rfl
  · show _ = _
    kernel_rfl
  conv => lhs; whnf
  obtain rfl := Option.some.inj h
  show _ = _
  kernel_rfl

noncomputable def p_impl_GainOf (a_0 : List BlockStat) (a_1 : Int) (a_2 : Int) : Option Int :=
  callK (p_impl_ValidStats a_0 a_1) fun y1 =>
  if y1 = true then
    callK (p_impl_isIndex a_2 (a_0.length : Int)) fun y2 =>
    if y2 = true then
      getK a_0 a_2 fun x3 =>
      some (IntKind.i64.wrap (a_1 - x3.Live))
    else
      some 0
  else
    some 0

theorem L_impl_GainOf (a_0 : List BlockStat) (a_1 : Int) (a_2 : Int) {r : Int} (h : p_impl_GainOf a_0 a_1 a_2 = some r) : callL E 26 [.d (.arr (a_0.map rBlockStat)), IN a_1, IN a_2] ([] : Fo) = some (IN r, ([] : Fo)) := by
  unfold p_impl_GainOf at h
  refine callW (fu := Try.f26) rfl rfl rfl NN ?_
  intro lp cl hlp hcl
  conv => lhs; whnf
  obtain ⟨y1, h_y1, h⟩ := callK_inv h
  rw [cl_eq hcl (L_impl_ValidStats a_0 a_1 h_y1)]
  rotate_left
  · show _ = _
    kernel_rfl
  · show _ = _
    kernel_rfl
  conv => lhs; whnf
  cases hb4 : y1
  · replace h := ifF h (booF hb4)
    conv => lhs; whnf
    obtain rfl := Option.some.inj h
    show _ = _
    kernel_rfl
  · replace h := ifT h hb4
    conv => lhs; whnf
    try rw [len_of (l := a_0) (r := rBlockStat)]
    obtain ⟨y2, h_y2, h⟩ := callK_inv h
    rw [cl_eq hcl (L_impl_isIndex a_2 (a_0.length : Int) h_y2)]
    rotate_left
    · show _ = _
      kernel_rfl
    · show _ = _
      kernel_rfl
    conv => lhs; whnf
    cases hb5 : y2
    · replace h := ifF h (booF hb5)
      conv => lhs; whnf
      obtain rfl := Option.some.inj h
      show _ = _
      kernel_rfl
    · replace h := ifT h hb5
      conv => lhs; whnf
      obtain ⟨x3, hq_x3, hx_x3', h⟩ := getK_inv h
      have hx_x3 := get_of (r := rBlockStat) hx_x3'
      try (rw [decide_eq_true hq_x3]; conv => lhs; whnf)
      rw [hx_x3]
      conv => lhs; whnf
      rw [hx_x3]
      conv => lhs; whnf
      obtain rfl := Option.some.inj h
      show _ = _
      kernel_rfl

noncomputable def p_laws_FnCleaning (a_0 : List Int) : Option Bool :=
  callK (p_laws_c2Big a_0 ([] : List Int)) fun y1 =>
  if y1 = true then
    some true
  else
    callK (p_spec_DrawGreedyVictim a_0) fun y2 =>
    callK (p_impl_GreedyVictim y2.1 y2.2) fun y3 =>
    callK (p_impl_CostBenefitVictim y2.1 y2.2) fun y4 =>
    callK (p_spec_GreedyVictim y2.1 y2.2) fun y5 =>
    if ¬ y3 = y5 then
      some false
    else
      callK (p_spec_CostBenefitVictim y2.1 y2.2) fun y6 =>
      if ¬ y4 = y6 then
        some false
      else
        if ((decide (y3 < 0)) == (decide (y4 < 0))) = true then
          if y3 < 0 then
            some true
          else
            callK (p_impl_AverageLive y2.1 y2.2) fun y7 =>
            grd (y2.1.length < 4611686018427387904) <|
            forK y2.1 (fun (i11 : Nat) x13 (_ : Unit) (nx12 : Unit → Option _) =>
              if x13.Usable = true then
                getK y2.1 y3 fun x14 =>
                if x13.Live < x14.Live then
                  some false
                else
                  nx12 ()
              else
                nx12 ()) () (fun (_ : Unit) =>
              getK y2.1 y3 fun x15 =>
              if (IntKind.i64.wrap (x15.Live * y7.2)) ≤ y7.1 then
                callK (p_impl_GainOf y2.1 y2.2 y3) fun y16 =>
                some (y16 == (IntKind.i64.wrap (y2.2 - x15.Live)))
              else
                some false)
        else
          some false

theorem L_laws_FnCleaning (a_0 : List Int) {r : Bool} (h : p_laws_FnCleaning a_0 = some r) : callL E 4 [.d (.arr (a_0.map rU))] ([] : Fo) = some (BO r, ([] : Fo)) := by
  unfold p_laws_FnCleaning at h
  refine callW (fu := Try.f4) rfl rfl rfl NN ?_
  intro lp cl hlp hcl
  conv => lhs; whnf
  obtain ⟨y1, h_y1, h⟩ := callK_inv h
  rw [cl_eq hcl (L_laws_c2Big a_0 ([] : List Int) h_y1)]
  rotate_left
  · show _ = _
    kernel_rfl
  · show _ = _
    kernel_rfl
  conv => lhs; whnf
  cases hb17 : y1
  · replace h := ifF h (booF hb17)
    conv => lhs; whnf
    obtain ⟨y2, h_y2, h⟩ := callK_inv h
    rw [cl_eq hcl (L_spec_DrawGreedyVictim a_0 h_y2)]
    rotate_left
    · show _ = _
      kernel_rfl
    · show _ = _
      kernel_rfl
    conv => lhs; whnf
    obtain ⟨y3, h_y3, h⟩ := callK_inv h
    rw [cl_eq hcl (L_impl_GreedyVictim y2.1 y2.2 h_y3)]
    rotate_left
    · show _ = _
      kernel_rfl
    · show _ = _
      kernel_rfl
    conv => lhs; whnf
    obtain ⟨y4, h_y4, h⟩ := callK_inv h
    rw [cl_eq hcl (L_impl_CostBenefitVictim y2.1 y2.2 h_y4)]
    rotate_left
    · show _ = _
      kernel_rfl
    · show _ = _
      kernel_rfl
    conv => lhs; whnf
    obtain ⟨y5, h_y5, h⟩ := callK_inv h
    rw [cl_eq hcl (L_spec_GreedyVictim y2.1 y2.2 h_y5)]
    rotate_left
    · show _ = _
      kernel_rfl
    · show _ = _
      kernel_rfl
    conv => lhs; whnf
    cases hb18 : (y3 != y5)
    · replace h := ifF h ((fun h => not_not_intro (bneF h)) hb18)
      conv => lhs; whnf
      obtain ⟨y6, h_y6, h⟩ := callK_inv h
      rw [cl_eq hcl (L_spec_CostBenefitVictim y2.1 y2.2 h_y6)]
      rotate_left
      · show _ = _
        kernel_rfl
      · show _ = _
        kernel_rfl
      conv => lhs; whnf
      cases hb19 : (y4 != y6)
      · replace h := ifF h ((fun h => not_not_intro (bneF h)) hb19)
        conv => lhs; whnf
        cases hb20 : ((decide (y3 < 0)) == (decide (y4 < 0)))
        · replace h := ifF h (booF hb20)
          conv => lhs; whnf
          obtain rfl := Option.some.inj h
          show _ = _
          kernel_rfl
        · replace h := ifT h hb20
          conv => lhs; whnf
          cases hb21 : (decide (y3 < 0))
          · replace h := ifF h (decF hb21)
            conv => lhs; whnf
            obtain ⟨y7, h_y7, h⟩ := callK_inv h
            rw [cl_eq hcl (L_impl_AverageLive y2.1 y2.2 h_y7)]
            rotate_left
            · show _ = _
              kernel_rfl
            · show _ = _
              kernel_rfl
            conv => lhs; whnf
            obtain ⟨hl_i11, h⟩ := grd_inv h
            refine loop_for hlp (l := y2.1) hl_i11 (fun (i11 : Nat) (_ : Unit) => ([.dead, .dead, .dead, .d (.arr (y2.1.map rBlockStat)), IN y2.2, IN y3, .dead, IN y7.1, IN y7.2, IN (i11 : Int)] ++ List.replicate 87 .dead : List V)) (fun (i11 : Nat) (_ : Unit) => ([] : Fo)) (fun (r : Bool) => ((BO r : V), ([] : Fo))) ?_ ?_ () _ (fun kk => by kernel_rfl) h
            · clear h
              rintro next_nx12 nx12 i11 hi_i11 hnx12 ⟨⟩ r h
              try dsimp only at h
              have hn_i11 : i11 < 4611686018427387904 := by omega
              have hx_x13 := get_map rBlockStat y2.1 i11 hi_i11
              generalize y2.1[i11] = x13 at h hx_x13
              have hd_i11 : (decide ((i11 : Int) < (y2.1.length : Int))) = true := decide_eq_true (by omega)
              conv => lhs; whnf
              try rw [len_of (l := y2.1) (r := rBlockStat)]
              rw [hd_i11]
              conv => lhs; whnf
              try (rw [decide_eq_true hq_x13]; conv => lhs; whnf)
              rw [hx_x13]
              conv => lhs; whnf
              rw [hx_x13]
              conv => lhs; whnf
              cases hb22 : x13.Usable
              · replace h := ifF h (booF hb22)
                conv => lhs; whnf
                rw [wrap_nat i11 (by have := hn_i11; omega)]
                exact hnx12 _ _ _ _ (fun kk => by kernel_rfl) h
              · replace h := ifT h hb22
                conv => lhs; whnf
                try (rw [decide_eq_true hq_x13]; conv => lhs; whnf)
                rw [hx_x13]
                conv => lhs; whnf
                rw [hx_x13]
                conv => lhs; whnf
                obtain ⟨x14, hq_x14, hx_x14', h⟩ := getK_inv h
                have hx_x14 := get_of (r := rBlockStat) hx_x14'
                try (rw [decide_eq_true hq_x14]; conv => lhs; whnf)
                rw [hx_x14]
                conv => lhs; whnf
                rw [hx_x14]
                conv => lhs; whnf
                cases hb23 : (decide (x13.Live < x14.Live))
                · replace h := ifF h (decF hb23)
                  conv => lhs; whnf
                  rw [wrap_nat i11 (by have := hn_i11; omega)]
                  exact hnx12 _ _ _ _ (fun kk => by kernel_rfl) h
                · replace h := ifT h (decT hb23)
                  conv => lhs; whnf
                  obtain rfl := Option.some.inj h
                  show _ = _
                  kernel_rfl
            · clear h
              rintro next_nx12 ⟨⟩ r h
              try dsimp only at h
              have hd_i11 : (decide ((y2.1.length : Int) < (y2.1.length : Int))) = false := decide_eq_false (by omega)
              conv => lhs; whnf
              try rw [len_of (l := y2.1) (r := rBlockStat)]
              rw [hd_i11]
              conv => lhs; whnf
              obtain ⟨x15, hq_x15, hx_x15', h⟩ := getK_inv h
              have hx_x15 := get_of (r := rBlockStat) hx_x15'
              try (rw [decide_eq_true hq_x15]; conv => lhs; whnf)
              rw [hx_x15]
              conv => lhs; whnf
              rw [hx_x15]
              conv => lhs; whnf
              cases hb24 : (decide ((IntKind.i64.wrap (x15.Live * y7.2)) ≤ y7.1))
              · replace h := ifF h (decF hb24)
                conv => lhs; whnf
                obtain rfl := Option.some.inj h
                show _ = _
                kernel_rfl
              · replace h := ifT h (decT hb24)
                conv => lhs; whnf
                obtain ⟨y16, h_y16, h⟩ := callK_inv h
                rw [cl_eq hcl (L_impl_GainOf y2.1 y2.2 y3 h_y16)]
                rotate_left
                · show _ = _
                  kernel_rfl
                · show _ = _
                  kernel_rfl
                conv => lhs; whnf
                try (rw [decide_eq_true hq_x15]; conv => lhs; whnf)
                rw [hx_x15]
                conv => lhs; whnf
                rw [hx_x15]
                conv => lhs; whnf
                obtain rfl := Option.some.inj h
                show _ = _
                kernel_rfl
          · replace h := ifT h (decT hb21)
            conv => lhs; whnf
            obtain rfl := Option.some.inj h
            show _ = _
            kernel_rfl
      · replace h := ifT h (bneT hb19)
        conv => lhs; whnf
        obtain rfl := Option.some.inj h
        show _ = _
        kernel_rfl
    · replace h := ifT h (bneT hb18)
      conv => lhs; whnf
      obtain rfl := Option.some.inj h
      show _ = _
      kernel_rfl
  · replace h := ifT h hb17
    conv => lhs; whnf
    obtain rfl := Option.some.inj h
    show _ = _
    kernel_rfl
def okStat (p : Int) (x : BlockStat) : Bool := inR x.Live 0 p && inR x.Age 0 1000000
def okStats (l : List BlockStat) (p : Int) : Bool := inR p 1 640 && (decide (l.length ≤ 640) && l.all (okStat p))
theorem pl_sOk (l : List BlockStat) (p : Int) : p_spec_l11Ok l p = some (okStats l p) := by
  unfold p_spec_l11Ok okStats
  cases inR p 1 640
  · rfl
  rw [if_pos rfl]
  split
  · rename_i h; rw [decide_eq_false (by omega)]; rfl
  · rename_i h
    rw [grd_pos (by omega), decide_eq_true (by omega), forK_all (okStat p) (some false) (fun i x nx => by unfold okStat; cases inR x.Live 0 p <;> cases inR x.Age 0 1000000 <;> rfl)]
    cases l.all (okStat p) <;> rfl
theorem pl_iOk1 (x : BlockStat) (p : Int) : p_impl_ValidStats_c1 x p = some (!okStat p x) := by
  unfold p_impl_ValidStats_c1 okStat
  cases inR x.Live 0 p <;> rfl
theorem any_not {α : Type} (p : α → Bool) (l : List α) : (!l.any (fun x => !p x)) = l.all p := by rw [List.not_any_eq_all_not]; simp
theorem pl_iOk (l : List BlockStat) (p : Int) : p_impl_ValidStats l p = some (okStats l p) := by
  unfold p_impl_ValidStats okStats
  cases inR p 1 640
  · rfl
  rw [if_pos rfl]
  split
  · rename_i h
    unfold p_slices_ContainsFunc_impl_ValidStats_c1 p_slices_IndexFunc_impl_ValidStats_c1
    rw [grd_pos (by omega), forK_idx (p := fun x => !okStat p x) (fun x => pl_iOk1 x p), decide_eq_true (by omega)]
    simp only [callK_some, idxP_any, any_not, Bool.true_and]
  · rename_i h; rw [decide_eq_false (by omega)]; rfl
def cand (p : Int) (x : BlockStat) : Bool := x.Usable && decide (x.Live < p)
def vStep (bt : BlockStat → BlockStat → Bool) (p : Int) (l : List BlockStat) (i : Nat) (x : BlockStat) (v : Int) : Int :=
  if (cand p x && (decide (v < 0) || bt x (l.getD v.toNat ⟨0, 0, false⟩))) = true then (i : Int) else v
/-- So far: the best of the candidates, or none. -/
def VJ (p : Int) (l : List BlockStat) (i : Nat) (v : Int) : Prop := (v = -1 ∧ ∀ j, j < i → ∀ h : j < l.length, cand p l[j] = false) ∨ ∃ n : Nat, n < i ∧ v = n ∧ ∃ h : n < l.length, cand p l[n] = true
theorem vj_step (bt : BlockStat → BlockStat → Bool) (p : Int) (l : List BlockStat) (i : Nat) (hi : i < l.length) (v : Int) (h : VJ p l i v) : VJ p l (i + 1) (vStep bt p l i l[i] v) := by
  unfold vStep
  split
  · rename_i hc
    rw [Bool.and_eq_true] at hc
    exact .inr ⟨i, by omega, rfl, hi, hc.1⟩
  · rename_i hc
    rcases h with ⟨rfl, h⟩ | ⟨n, h1, h2, h3, h4⟩
    · refine .inl ⟨rfl, fun j hj hl => ?_⟩
      by_cases e : j = i
      · subst e; simpa using hc
      · exact h j (by omega) hl
    · exact .inr ⟨n, by omega, h2, h3, h4⟩
def vic (bt : BlockStat → BlockStat → Bool) (p : Int) (l : List BlockStat) : Int := foldI (vStep bt p l) 0 l (-1)
theorem vj0 (p : Int) (l : List BlockStat) : VJ p l 0 (-1) := .inl ⟨rfl, fun j hj => by omega⟩
theorem vj_in {p : Int} {l : List BlockStat} {i : Nat} {v : Int} (h : VJ p l i v) : ¬ v < 0 → 0 ≤ v ∧ v < l.length := fun hv => by
  rcases h with ⟨rfl, h⟩ | ⟨n, h1, rfl, h3, h4⟩ <;> omega
theorem getD_in {l : List BlockStat} {v : Int} (h : v.toNat < l.length) : l.getD v.toNat ⟨0, 0, false⟩ = l[v.toNat] := by simp [List.getD, h]
theorem pl_victim (l : List BlockStat) (p pol : Int) (bt : BlockStat → BlockStat → Bool) (hbt : ∀ a b, p_spec_l11Better pol a b p = some (bt a b)) (hl : l.length ≤ 640) : p_spec_l11Victim pol l p = some (vic bt p l) ∧ VJ p l l.length (vic bt p l) := by
  unfold p_spec_l11Victim vic
  rw [grd_pos (by omega)]
  refine forK_fold (vStep bt p l) (VJ p l) (fun i hi v nx hv => ⟨?_, vj_step bt p l i hi v hv⟩) (-1) (vj0 p l)
  unfold vStep cand
  cases l[i].Usable
  · rfl
  rw [if_pos rfl]
  by_cases h1 : l[i].Live < p
  · rw [if_neg (by omega), decide_eq_true h1]
    by_cases h2 : v < 0
    · rw [if_pos h2, decide_eq_true h2]; rfl
    · have := vj_in hv h2
      rw [if_neg h2, getK_in this.1 this.2, hbt, callK_some, decide_eq_false h2, getD_in (by omega)]
      cases bt l[i] (l[v.toNat]'(by omega)) <;> rfl
  · rw [if_pos (by omega), decide_eq_false h1]; rfl
def btG (a b : BlockStat) : Bool := decide (a.Live < b.Live)
theorem pl_victimG (l : List BlockStat) (p : Int) (hl : l.length ≤ 640) : p_impl_victim_impl_GreedyVictim_c1 l p = some (vic btG p l) := by
  unfold p_impl_victim_impl_GreedyVictim_c1 vic
  rw [grd_pos (by omega)]
  refine (forK_fold (vStep btG p l) (VJ p l) (fun i hi v nx hv => ⟨?_, vj_step btG p l i hi v hv⟩) (-1) (vj0 p l)).1
  unfold vStep cand
  cases l[i].Usable
  · rfl
  rw [if_pos rfl]
  by_cases h1 : l[i].Live < p
  · rw [if_pos (by omega), decide_eq_true h1]
    by_cases h2 : v < 0
    · rw [if_pos h2, decide_eq_true h2]; rfl
    · have := vj_in hv h2
      rw [if_neg h2, getK_in this.1 this.2, show p_impl_GreedyVictim_c1 l[i] (l[v.toNat]'(by omega)) = some (btG l[i] (l[v.toNat]'(by omega))) from rfl, callK_some, decide_eq_false h2, getD_in (by omega)]
      cases btG l[i] (l[v.toNat]'(by omega)) <;> rfl
  · rw [if_neg (by omega), decide_eq_false h1]; rfl
noncomputable def btC (p : Int) (a b : BlockStat) : Bool := (p_impl_CostBenefitVictim_c1 a b p).getD false
theorem btC_i (p : Int) (a b : BlockStat) : p_impl_CostBenefitVictim_c1 a b p = some (btC p a b) := by
  unfold btC p_impl_CostBenefitVictim_c1
  rw [Option.getD_some]
theorem btC_s (p : Int) (a b : BlockStat) : p_spec_l11Better 2 a b p = some (btC p a b) := by
  unfold p_spec_l11Better btC p_impl_CostBenefitVictim_c1
  rw [if_neg (by omega), Option.getD_some]
theorem pl_victimC (l : List BlockStat) (p : Int) (bt : BlockStat → BlockStat → Bool) (hbt : ∀ a b, p_impl_CostBenefitVictim_c1 a b p = some (bt a b)) (hl : l.length ≤ 640) : p_impl_victim_impl_CostBenefitVictim_c1 l p p = some (vic bt p l) := by
  unfold p_impl_victim_impl_CostBenefitVictim_c1 vic
  rw [grd_pos (by omega)]
  refine (forK_fold (vStep bt p l) (VJ p l) (fun i hi v nx hv => ⟨?_, vj_step bt p l i hi v hv⟩) (-1) (vj0 p l)).1
  unfold vStep cand
  cases l[i].Usable
  · rfl
  rw [if_pos rfl]
  by_cases h1 : l[i].Live < p
  · rw [if_pos (by omega), decide_eq_true h1]
    by_cases h2 : v < 0
    · rw [if_pos h2, decide_eq_true h2]; rfl
    · have := vj_in hv h2
      rw [if_neg h2, getK_in this.1 this.2, hbt, callK_some, decide_eq_false h2, getD_in (by omega)]
      cases bt l[i] (l[v.toNat]'(by omega)) <;> rfl
  · rw [if_neg (by omega), decide_eq_false h1]; rfl
theorem draw_ok {s : Sl00Src} (h : SrcOk 1000 s) : ∃ r, p_spec_l11Draw s = some r ∧ True := by
  obtain ⟨p, s1, e1, _, o1⟩ := among_ok (b := 998) ([8, 8, 16, 1] : List Int) (by decide) (by omega) h
  obtain ⟨k, s2, e2, b2, o2⟩ := pick_ok (b := 996) 9 (by omega) o1
  unfold p_spec_l11Draw
  rw [e1, callK_some, e2, callK_some]
  refine iterK_ex (fun d (x : Int × Sl00Src × List BlockStat) => d = x.1.toNat ∧ 0 ≤ x.1 ∧ x.1 ≤ 8 ∧ (x.2.2.length : Int) ≤ 8 - x.1 ∧ SrcOk (10 + 10 * x.1) x.2.1) ?_ k.toNat _ (by unfold NN; omega) ⟨rfl, b2.1, by have := b2.2.1 (by omega); omega, by have := b2.2.1 (by omega); simp; omega, o2.le (by have := b2.2.1 (by omega); omega)⟩
  rintro d ⟨k, s, l⟩ ⟨rfl, h0, h8, hl, ho⟩ nx hnx
  dsimp only at h0 h8 hl ho hnx ⊢
  have ap : appOk (l.length + 1) 24 = true := appOk_of _ _ (by omega)
  split
  · rename_i hk
    obtain ⟨a, s3, e3, _, o3⟩ := pick_ok (b := 8 + 10 * k) (IntKind.i64.wrap (p + 1)) (by omega) (ho.le (by omega))
    obtain ⟨b, s4, e4, _, o4⟩ := among_ok (b := 6 + 10 * k) ([0, 1, 3, 10, 30, 1000000] : List Int) (by decide) (by omega) (o3.le (by omega))
    obtain ⟨c, s5, e5, o5⟩ := one_ok (b := 4 + 10 * k) 4 (by omega) (o4.le (by omega))
    have hw : IntKind.i64.wrap (k - 1) = k - 1 := wrap_sm _ (by omega) (by omega)
    rw [e3, callK_some, e4, callK_some, e5, callK_some, grd_pos ap, hw]
    exact hnx (k - 1).toNat _ (by omega) ⟨rfl, by omega, by omega, by simp; omega, o5.le (by omega)⟩
  · rename_i hk
    obtain ⟨a, s3, e3, _, o3⟩ := pick_ok (b := 8) 16 (by omega) (ho.le (by omega))
    obtain ⟨b, s4, e4, _, o4⟩ := among_ok (b := 6) ([0, (-1), 640, 641] : List Int) (by decide) (by omega) (o3.le (by omega))
    obtain ⟨c, s5, e5, _, o5⟩ := among_ok (b := 6) ([(-1), 1000001] : List Int) (by decide) (by omega) (o3.le (by omega))
    rw [e3, callK_some]
    dsimp only
    rw [e4, e5, callK_some, callK_some, grd_pos ap, grd_pos ap]
    repeat' split
    all_goals exact ⟨_, rfl, trivial⟩
theorem vic_min (p : Int) (l : List BlockStat) (n : Nat) (h : vic btG p l = n) (hn : n < l.length) : ∀ j (hj : j < l.length), l[j].Usable = true → ¬ l[j].Live < l[n].Live := by
  have go : ∀ (m i : Nat) (v : Int), i ≤ l.length → l.length - i = m → VJ p l i v → (∀ n : Nat, v = n → ∀ hn : n < l.length, ∀ j, j < i → ∀ hj : j < l.length, cand p l[j] = true → ¬ l[j].Live < l[n].Live) →
      ∀ n : Nat, foldI (vStep btG p l) i (l.drop i) v = n → ∀ hn : n < l.length, (∀ j (hj : j < l.length), cand p l[j] = true → ¬ l[j].Live < l[n].Live) ∧ cand p l[n] = true := by
    intro m
    induction m with
    | zero =>
      intro i v h1 h2 hv h3 n hn hl
      obtain rfl : i = l.length := by omega
      rw [List.drop_length] at hn
      refine ⟨fun j hj => h3 n hn hl j hj hj, ?_⟩
      rcases hv with ⟨rfl, _⟩ | ⟨q, q1, q2, q3, q4⟩
      · have : (-1 : Int) = n := hn
        omega
      · have : v = n := hn
        obtain rfl : q = n := by omega
        exact q4
    | succ m ih =>
      intro i v h1 h2 hv h3 n hn hl
      have hlt : i < l.length := by omega
      rw [List.drop_eq_getElem_cons hlt] at hn
      refine ih (i + 1) _ (by omega) (by omega) (vj_step btG p l i hlt v hv) ?_ n hn hl
      intro n hn2 hl j hj hj2 hc
      unfold vStep at hn2
      split at hn2
      · rename_i hc2
        obtain rfl : i = n := by omega
        by_cases e : j = i
        · subst e; omega
        · rw [Bool.and_eq_true, Bool.or_eq_true] at hc2
          rcases hc2.2 with h4 | h4
          · rcases hv with ⟨rfl, h5⟩ | ⟨q, q1, rfl, q3, q4⟩
            · have := h5 j (by omega) hj2; rw [this] at hc; cases hc
            · have := of_decide_eq_true h4; omega
          · rcases hv with ⟨rfl, h5⟩ | ⟨q, q1, rfl, q3, q4⟩
            · have := h5 j (by omega) hj2; rw [this] at hc; cases hc
            · have h6 := h3 q rfl q3 j (by omega) hj2 hc
              have h7 := of_decide_eq_true h4
              rw [getD_in (by simpa using q3)] at h7
              simp only [Int.toNat_natCast] at h7
              omega
      · rename_i hc2
        by_cases e : j = i
        · subst e
          subst hn2
          have h4 : ¬ ((n : Int) < 0) := by omega
          rw [hc, decide_eq_false h4, getD_in (by simpa using hl)] at hc2
          simp only [Int.toNat_natCast, Bool.true_and, Bool.false_or, btG, decide_eq_true_eq] at hc2
          exact hc2
        · exact h3 n hn2 hl j (by omega) hj2 hc
  have h0 := go l.length 0 (-1) (by omega) (by omega) (vj0 p l) (fun n hn => by omega) n (by simpa [vic] using h) hn
  intro j hj hu hlt
  have hc : cand p l[j] = true := by
    have h5 := h0.2
    unfold cand at h5 ⊢
    simp only [hu, Bool.true_and, Bool.and_eq_true, decide_eq_true_eq] at h5 ⊢
    omega
  exact h0.1 j hj hc hlt
theorem avg_ok (l : List BlockStat) (p : Int) (hk : okStats l p = true) (m : Int) (hm : 0 ≤ m) (hm2 : m ≤ 640) (hmin : ∀ j (hj : j < l.length), l[j].Usable = true → ¬ l[j].Live < m) :
    ∃ r, p_impl_AverageLive l p = some r ∧ (0 ≤ r.2 ∧ r.2 ≤ 640 ∧ m * r.2 ≤ r.1) := by
  unfold okStats at hk
  simp only [Bool.and_eq_true, decide_eq_true_eq, List.all_eq_true] at hk
  obtain ⟨hp, hl, ha⟩ := hk
  have hp := inR_iff.mp hp
  unfold p_impl_AverageLive
  rw [pl_iOk, callK_some, show okStats l p = true by unfold okStats; simp only [Bool.and_eq_true, decide_eq_true_eq, List.all_eq_true]; exact ⟨inR_iff.mpr hp, hl, ha⟩, if_pos rfl, grd_pos (by omega)]
  refine forK_ex (fun i (x : Int × Int) => 0 ≤ x.2 ∧ x.2 ≤ i ∧ m * x.2 ≤ x.1 ∧ x.1 ≤ 640 * i) ?_ ?_ _ ⟨by omega, by simp, by simp, by simp⟩
  · rintro i hi ⟨s, c⟩ ⟨h1, h2, h3, h4⟩ nx hnx
    dsimp only at h1 h2 h3 h4 hnx ⊢
    have hx := ha _ (List.getElem_mem hi)
    unfold okStat at hx
    rw [Bool.and_eq_true, inR_iff] at hx
    have hmc : 0 ≤ m * c := Int.mul_nonneg hm h1
    split
    · rename_i hu
      have := hmin i hi hu
      rw [wrap_sm _ (by omega) (by omega), wrap_sm _ (by omega) (by omega)]
      exact hnx _ ⟨by omega, by omega, by rw [Int.mul_add]; omega, by omega⟩
    · exact hnx _ ⟨h1, by omega, h3, by omega⟩
  · rintro ⟨s, c⟩ ⟨h1, h2, h3, h4⟩
    dsimp only at h1 h2 h3 h4
    exact ⟨_, rfl, h1, by show c ≤ 640; omega, h3⟩
theorem pl_law (code : List Int) (hk : okL u8r code) : p_laws_FnCleaning code = some true := by
  unfold p_laws_FnCleaning
  rw [pl_big, callK_some]
  by_cases hl : (code.length : Int) > 1048576
  · rw [decide_eq_true hl]; rfl
  rw [decide_eq_false hl]
  obtain ⟨s0, e0, o0⟩ := from_ok hk.2 (by omega)
  obtain ⟨⟨l, p, s1⟩, e1, _⟩ := draw_ok (o0.le (by omega))
  simp only [callK_some, Bool.false_eq_true, if_false]
  have hd : p_spec_DrawGreedyVictim code = some (l, p) := by
    unfold p_spec_DrawGreedyVictim
    rw [e0, callK_some, e1]; rfl
  rw [hd]
  have hb1 := btC_s p
  have hb2 := btC_i p
  generalize btC p = bt at hb1 hb2
  unfold p_impl_GreedyVictim p_impl_CostBenefitVictim p_spec_GreedyVictim p_spec_CostBenefitVictim p_spec_PickVictim p_impl_GainOf p_impl_isIndex
  simp only [callK_some, pl_iOk, pl_sOk]
  cases hok : okStats l p
  · rfl
  have hok2 := hok
  unfold okStats at hok2
  simp only [Bool.and_eq_true, decide_eq_true_eq, List.all_eq_true] at hok2
  obtain ⟨hp, hlen, ha⟩ := hok2
  have hp := inR_iff.mp hp
  have hG := pl_victim l p 1 btG (fun a b => rfl) hlen
  have hC := pl_victim l p 2 bt hb1 hlen
  simp only [if_true, pl_victimG l p hlen, pl_victimC l p bt hb2 hlen, hG.1, hC.1, callK_some, show inR 1 1 2 = true from rfl, show inR 2 1 2 = true from rfl, not_true_eq_false, if_false]
  have hsame : (decide (vic btG p l < 0) == decide (vic bt p l < 0)) = true := by
    rcases hG.2 with ⟨e1, h1⟩ | ⟨n, _, e1, n1, n2⟩ <;> rcases hC.2 with ⟨e2, h2⟩ | ⟨k, _, e2, k1, k2⟩
    · rw [e1, e2]; rfl
    · have := h1 k k1 k1; rw [this] at k2; cases k2
    · have := h2 n n1 n1; rw [this] at n2; cases n2
    · rw [decide_eq_false (by omega), decide_eq_false (by omega)]; rfl
  rw [if_pos hsame]
  split
  · rfl
  rename_i hv
  rcases hG.2 with ⟨e1, h1⟩ | ⟨n, _, e1, n1, n2⟩
  · omega
  have hmin := vic_min p l n e1 n1
  have hx := ha _ (List.getElem_mem n1)
  unfold okStat at hx
  rw [Bool.and_eq_true, inR_iff] at hx
  obtain ⟨⟨s, c⟩, ea, c1, c2, c3⟩ := avg_ok l p hok l[n].Live hx.1.1 (by omega) hmin
  rw [ea, callK_some, grd_pos (by omega)]
  refine forK_rule (fun _ _ => True) (fun i hi s _ nx hnx => ?_) (fun s _ => ?_) () trivial
  · rw [e1, getK_lt n1]
    split
    · rename_i hu
      rw [if_neg (hmin i hi hu)]
      exact hnx _ trivial
    · exact hnx _ trivial
  · dsimp only at c1 c2 c3 ⊢
    rw [e1, getK_lt n1]
    have hmc : 0 ≤ l[n].Live * c := Int.mul_nonneg hx.1.1 c1
    have hmc2 : l[n].Live * c ≤ 640 * 640 := Int.mul_le_mul (by omega) c2 c1 (by omega)
    rw [wrap_sm (l[n].Live * c) (by omega) (by omega), if_pos c3, wrap_sm ((l.length : Int) - 1) (by omega) (by omega)]
    rw [inR_iff.mpr (by omega), if_pos rfl, getK_lt n1]
    simp
theorem f_law (code : List Int) (hk : okL u8r code) : callL E 4 [.d (.arr (code.map rU))] [] = some (BO true, []) := L_laws_FnCleaning code (pl_law code hk)

end Go.Proofs.Ytjbddmmammgmjaa.T11

/- FnScramble: what its functions come to, and the row; conditions: none. -/
import Derived.Test.YtjbddmmammgmjaaT17
import Derived.Test.YtjbddmmammgmjaaEz
import Derived.Test.YtjbddmmammgmjaaRows
import Derived.WalkKit
import Derived.ProofKit
import Derived.OpenShut
import Derived.ShutString
import Derived.ChangeOld
import Derived.Below
import Derived.SizedLaws
namespace Go.Proofs.Ytjbddmmammgmjaa.T17
open Go.Proofs.YtjbddmmammgmjaaE
set_option maxRecDepth 100000
set_option linter.unusedVariables false
set_option linter.unusedSimpArgs false

noncomputable def p_impl_within (a_0 : Int) (a_1 : Int) (a_2 : Int) : Option Bool :=
  if a_0 ≥ a_1 then
    some (decide (a_0 ≤ a_2))
  else
    some false

theorem L_impl_within (a_0 : Int) (a_1 : Int) (a_2 : Int) {r : Bool} (h : p_impl_within a_0 a_1 a_2 = some r) : callL E 107 [IN a_0, IN a_1, IN a_2] ([] : Fo) = some (BO r, ([] : Fo)) := by
  unfold p_impl_within at h
  refine callW (fu := Try.f107) rfl rfl rfl NN ?_
  intro lp cl hlp hcl
  conv => lhs; whnf
  cases hb1 : (decide (a_0 ≥ a_1))
  · replace h := ifF h (decF hb1)
    conv => lhs; whnf
    obtain rfl := Option.some.inj h
    show _ = _
    kernel_rfl
  · replace h := ifT h (decT hb1)
    conv => lhs; whnf
    obtain rfl := Option.some.inj h
    show _ = _
    kernel_rfl
theorem pl_within (n lo hi : Int) : p_impl_within n lo hi = some (inR n lo hi) := by
  unfold p_impl_within inR
  split
  · rename_i h; simp [h]
  · rename_i h; simp [h]


structure Sl00Src where
  Code : List Int
  At : Int
  Seed : Int
def rSl00Src (x : Sl00Src) : List D := [.arr (x.Code.map rU), dI x.At, .lit (.int .u64 x.Seed)]

noncomputable def p_spec_l00From (a_0 : List Int) : Option Sl00Src :=
  some (⟨a_0, 0, 0⟩ : Sl00Src)

theorem L_spec_l00From (a_0 : List Int) {r : Sl00Src} (h : p_spec_l00From a_0 = some r) : callL E 103 [.d (.arr (a_0.map rU))] ([] : Fo) = some (.bp 0 0, ([some (.box [.d (.arr (r.Code.map rU)), IN r.At, .d (.lit (.int .u64 r.Seed))])] : Fo)) := by
  unfold p_spec_l00From at h
  refine callW (fu := Try.f103) rfl rfl rfl NN ?_
  intro lp cl hlp hcl
  conv => lhs; whnf
  obtain rfl := Option.some.inj h
  show _ = _
  kernel_rfl

noncomputable def p_spec_l00Src_next (a_0 : Sl00Src) : Option (Int × Sl00Src) :=
  if a_0.At < (a_0.Code.length : Int) then
    getK a_0.Code a_0.At fun x1 =>
    if (IntKind.i64.wrap (a_0.At + 1)) ≤ (a_0.Code.length : Int) then
      some ((IntKind.i64.wrap x1), (⟨a_0.Code, (IntKind.i64.wrap (a_0.At + 1)), (IntKind.u64.wrap ((IntKind.u64.wrap ((IntKind.u64.wrap (a_0.Seed * 6364136223846793005)) + (IntKind.u64.wrap (IntKind.i64.wrap x1)))) + 1442695040888963407))⟩ : Sl00Src))
    else
      some ((IntKind.i64.wrap (andK .u64 (Int.fdiv (IntKind.u64.wrap ((IntKind.u64.wrap ((IntKind.u64.wrap (a_0.Seed * 6364136223846793005)) + (IntKind.u64.wrap (IntKind.i64.wrap x1)))) + 1442695040888963407)) (2 ^ (min (Int.toNat 40) IntKind.u64.bits))) 255)), (⟨a_0.Code, (IntKind.i64.wrap (a_0.At + 1)), (IntKind.u64.wrap ((IntKind.u64.wrap ((IntKind.u64.wrap (a_0.Seed * 6364136223846793005)) + (IntKind.u64.wrap (IntKind.i64.wrap x1)))) + 1442695040888963407))⟩ : Sl00Src))
  else
    if (IntKind.i64.wrap (a_0.At + 1)) ≤ (a_0.Code.length : Int) then
      some (0, (⟨a_0.Code, (IntKind.i64.wrap (a_0.At + 1)), (IntKind.u64.wrap ((IntKind.u64.wrap ((IntKind.u64.wrap (a_0.Seed * 6364136223846793005)) + (IntKind.u64.wrap 0))) + 1442695040888963407))⟩ : Sl00Src))
    else
      some ((IntKind.i64.wrap (andK .u64 (Int.fdiv (IntKind.u64.wrap ((IntKind.u64.wrap ((IntKind.u64.wrap (a_0.Seed * 6364136223846793005)) + (IntKind.u64.wrap 0))) + 1442695040888963407)) (2 ^ (min (Int.toNat 40) IntKind.u64.bits))) 255)), (⟨a_0.Code, (IntKind.i64.wrap (a_0.At + 1)), (IntKind.u64.wrap ((IntKind.u64.wrap ((IntKind.u64.wrap (a_0.Seed * 6364136223846793005)) + (IntKind.u64.wrap 0))) + 1442695040888963407))⟩ : Sl00Src))

theorem L_spec_l00Src_next (a_0 : Sl00Src) {r : (Int × Sl00Src)} (h : p_spec_l00Src_next a_0 = some r) : callL E 217 [.bp 0 0] ([some (.box [.d (.arr (a_0.Code.map rU)), IN a_0.At, .d (.lit (.int .u64 a_0.Seed))])] : Fo) = some (IN r.1, ([some (.box [.d (.arr (r.2.Code.map rU)), IN r.2.At, .d (.lit (.int .u64 r.2.Seed))])] : Fo)) := by
  unfold p_spec_l00Src_next at h
  refine callW (fu := Try.f217) rfl rfl rfl NN ?_
  intro lp cl hlp hcl
  conv => lhs; whnf
  try rw [len_of (l := a_0.Code) (r := rU)]
  cases hb2 : (decide (a_0.At < (a_0.Code.length : Int)))
  · replace h := ifF h (decF hb2)
    conv => lhs; whnf
    try rw [len_of (l := a_0.Code) (r := rU)]
    cases hb3 : (decide ((IntKind.i64.wrap (a_0.At + 1)) ≤ (a_0.Code.length : Int)))
    · replace h := ifF h (decF hb3)
      conv => lhs; whnf
      obtain rfl := Option.some.inj h
      show _ = _
      kernel_rfl
    · replace h := ifT h (decT hb3)
      conv => lhs; whnf
      obtain rfl := Option.some.inj h
      show _ = _
      kernel_rfl
  · replace h := ifT h (decT hb2)
    conv => lhs; whnf
    obtain ⟨x1, hq_x1, hx_x1', h⟩ := getK_inv h
    have hx_x1 := get_of (r := rU) hx_x1'
    try (rw [decide_eq_true hq_x1]; conv => lhs; whnf)
    rw [hx_x1]
    conv => lhs; whnf
    rw [hx_x1]
    conv => lhs; whnf
    try rw [len_of (l := a_0.Code) (r := rU)]
    cases hb4 : (decide ((IntKind.i64.wrap (a_0.At + 1)) ≤ (a_0.Code.length : Int)))
    · replace h := ifF h (decF hb4)
      conv => lhs; whnf
      obtain rfl := Option.some.inj h
      show _ = _
      kernel_rfl
    · replace h := ifT h (decT hb4)
      conv => lhs; whnf
      obtain rfl := Option.some.inj h
      show _ = _
      kernel_rfl

noncomputable def p_spec_l00Src_pick (a_0 : Int) (a_1 : Sl00Src) : Option (Int × Sl00Src) :=
  if a_0 ≤ 1 then
    some (0, a_1)
  else
    callK (p_spec_l00Src_next a_1) fun y1 =>
    if a_0 > 200 then
      callK (p_spec_l00Src_next y1.2) fun y2 =>
      grd (a_0 ≠ 0) <|
      some ((Int.tmod (IntKind.i64.wrap ((IntKind.i64.wrap (y1.1 * 256)) + y2.1)) a_0), y2.2)
    else
      grd (a_0 ≠ 0) <|
      some ((Int.tmod y1.1 a_0), y1.2)

theorem L_spec_l00Src_pick (a_0 : Int) (a_1 : Sl00Src) {r : (Int × Sl00Src)} (h : p_spec_l00Src_pick a_0 a_1 = some r) : callL E 122 [.bp 0 0, IN a_0] ([some (.box [.d (.arr (a_1.Code.map rU)), IN a_1.At, .d (.lit (.int .u64 a_1.Seed))])] : Fo) = some (IN r.1, ([some (.box [.d (.arr (r.2.Code.map rU)), IN r.2.At, .d (.lit (.int .u64 r.2.Seed))])] : Fo)) := by
  unfold p_spec_l00Src_pick at h
  refine callW (fu := Try.f122) rfl rfl rfl NN ?_
  intro lp cl hlp hcl
  conv => lhs; whnf
  cases hb3 : (decide (a_0 ≤ 1))
  · replace h := ifF h (decF hb3)
    conv => lhs; whnf
    obtain ⟨y1, h_y1, h⟩ := callK_inv h
    rw [cl_eq hcl (L_spec_l00Src_next a_1 h_y1)]
    rotate_left
    · show _ = _
      kernel_rfl
    · show _ = _
      kernel_rfl
    conv => lhs; whnf
    cases hb4 : (decide (a_0 > 200))
    · replace h := ifF h (decF hb4)
      conv => lhs; whnf
      obtain ⟨hg5, h⟩ := grd_inv h
      rw [rem_run _ _ _ _ hg5]
      conv => lhs; whnf
      obtain rfl := Option.some.inj h
      show _ = _
      kernel_rfl
    · replace h := ifT h (decT hb4)
      conv => lhs; whnf
      obtain ⟨y2, h_y2, h⟩ := callK_inv h
      rw [cl_eq hcl (L_spec_l00Src_next y1.2 h_y2)]
      rotate_left
      · show _ = _
        kernel_rfl
      · show _ = _
        kernel_rfl
      conv => lhs; whnf
      obtain ⟨hg6, h⟩ := grd_inv h
      rw [rem_run _ _ _ _ hg6]
      conv => lhs; whnf
      obtain rfl := Option.some.inj h
      show _ = _
      kernel_rfl
  · replace h := ifT h (decT hb3)
    conv => lhs; whnf
    obtain rfl := Option.some.inj h
    show _ = _
    kernel_rfl
/-- A source of choices from which as many may still be drawn. -/
structure SrcOk (b : Int) (s : Sl00Src) : Prop where
  code : ∀ x ∈ s.Code, 0 ≤ x ∧ x ≤ 255
  len : s.Code.length ≤ 1048576
  lo : 0 ≤ s.At
  hi : s.At + b ≤ 4611686018427387904
theorem SrcOk.le {b c : Int} {s : Sl00Src} (h : SrcOk b s) (hc : c ≤ b) : SrcOk c s := ⟨h.1, h.2, h.3, by have := h.4; omega⟩
theorem nxV_in (sd : Int) : 0 ≤ IntKind.i64.wrap (andK .u64 sd 255) ∧ IntKind.i64.wrap (andK .u64 sd 255) ≤ 255 := by
  unfold andK
  generalize BitVec.ofInt IntKind.u64.bits sd = a
  have h1 : (a &&& BitVec.ofInt IntKind.u64.bits 255).toNat ≤ 255 := by
    rw [BitVec.toNat_and]
    exact Nat.le_trans Nat.and_le_right (by decide)
  generalize (a &&& BitVec.ofInt IntKind.u64.bits 255).toNat = m at h1
  have e1 : IntKind.u64.wrap (m : Int) = m := by unfold IntKind.wrap; simp [IntKind.signed, IntKind.bits]; omega
  rw [e1, wrap_sm _ (by omega) (by omega)]
  omega
theorem next_ok {b : Int} {s : Sl00Src} (hb : 0 ≤ b) (h : SrcOk (b + 1) s) : ∃ v s', p_spec_l00Src_next s = some (v, s') ∧ (0 ≤ v ∧ v ≤ 255) ∧ SrcOk b s' := by
  obtain ⟨h1, h2, h3, h4⟩ := h
  have hw : IntKind.i64.wrap (s.At + 1) = s.At + 1 := wrap_sm _ (by omega) (by omega)
  unfold p_spec_l00Src_next
  rw [hw]
  split
  · rename_i hlt
    rw [getK_in h3 hlt]
    have hb := h1 _ (List.getElem_mem (show s.At.toNat < s.Code.length by omega))
    rw [if_pos (by omega)]
    exact ⟨_, _, rfl, by rw [wrap_sm _ (by omega) (by omega)]; exact hb, h1, h2, by show 0 ≤ s.At + 1; omega, by show s.At + 1 + b ≤ _; omega⟩
  · rename_i hlt
    rw [if_neg (by omega)]
    exact ⟨_, _, rfl, nxV_in _, h1, h2, by show 0 ≤ s.At + 1; omega, by show s.At + 1 + b ≤ _; omega⟩
theorem pick_ok {b : Int} {s : Sl00Src} (m : Int) (hb : 0 ≤ b) (h : SrcOk (b + 2) s) : ∃ r s', p_spec_l00Src_pick m s = some (r, s') ∧ (0 ≤ r ∧ (1 < m → r < m) ∧ (m ≤ 1 → r = 0)) ∧ SrcOk b s' := by
  unfold p_spec_l00Src_pick
  split
  · rename_i hm
    exact ⟨0, s, rfl, ⟨by omega, fun h => by omega, fun _ => rfl⟩, h.le (by omega)⟩
  · rename_i hm
    obtain ⟨v1, s1, e1, b1, o1⟩ := next_ok (b := b + 1) (by omega) (h.le (by omega))
    rw [e1, callK_some]
    split
    · obtain ⟨v2, s2, e2, b2, o2⟩ := next_ok hb o1
      rw [e2, callK_some, grd_pos (by omega)]
      have w1 : IntKind.i64.wrap (v1 * 256) = v1 * 256 := wrap_sm _ (by omega) (by omega)
      have w2 : IntKind.i64.wrap (v1 * 256 + v2) = v1 * 256 + v2 := wrap_sm _ (by omega) (by omega)
      refine ⟨_, _, rfl, ?_, o2⟩
      show 0 ≤ Int.tmod (IntKind.i64.wrap (IntKind.i64.wrap (v1 * 256) + v2)) m ∧ _
      rw [w1, w2]
      exact ⟨Int.tmod_nonneg _ (by omega), fun _ => Int.tmod_lt_of_pos _ (by omega), fun h3 => by omega⟩
    · rw [grd_pos (by omega)]
      exact ⟨_, _, rfl, ⟨Int.tmod_nonneg _ b1.1, fun _ => Int.tmod_lt_of_pos _ (by omega), fun h3 => by omega⟩, o1.le (by omega)⟩
theorem from_ok {code : List Int} (h : ∀ x ∈ code, 0 ≤ x ∧ x ≤ 255) (hl : code.length ≤ 1048576) : ∃ s, p_spec_l00From code = some s ∧ SrcOk 1099511627776 s :=
  ⟨_, rfl, h, hl, by show (0 : Int) ≤ 0; omega, by show (0 : Int) + 1099511627776 ≤ _; omega⟩

noncomputable def p_spec_l00Src_among (a_0 : List Int) (a_1 : Sl00Src) : Option (Int × Sl00Src) :=
  callK (p_spec_l00Src_pick (a_0.length : Int) a_1) fun y1 =>
  getK a_0 y1.1 fun x2 =>
  some (x2, y1.2)

theorem L_spec_l00Src_among (a_0 : List Int) (a_1 : Sl00Src) {r : (Int × Sl00Src)} (h : p_spec_l00Src_among a_0 a_1 = some r) : callL E 105 [.bp 0 0, .d (.arr (a_0.map rI))] ([some (.box [.d (.arr (a_1.Code.map rU)), IN a_1.At, .d (.lit (.int .u64 a_1.Seed))])] : Fo) = some (IN r.1, ([some (.box [.d (.arr (r.2.Code.map rU)), IN r.2.At, .d (.lit (.int .u64 r.2.Seed))])] : Fo)) := by
  unfold p_spec_l00Src_among at h
  refine callW (fu := Try.f105) rfl rfl rfl NN ?_
  intro lp cl hlp hcl
  conv => lhs; whnf
  try rw [len_of (l := a_0) (r := rI)]
  obtain ⟨y1, h_y1, h⟩ := callK_inv h
  rw [cl_eq hcl (L_spec_l00Src_pick (a_0.length : Int) a_1 h_y1)]
  rotate_left
  · show _ = _
    kernel_rfl
  · show _ = _
    kernel_rfl
  conv => lhs; whnf
  obtain ⟨x2, hq_x2, hx_x2', h⟩ := getK_inv h
  have hx_x2 := get_of (r := rI) hx_x2'
  try (rw [decide_eq_true hq_x2]; conv => lhs; whnf)
  rw [hx_x2]
  conv => lhs; whnf
  rw [hx_x2]
  conv => lhs; whnf
  obtain rfl := Option.some.inj h
  show _ = _
  kernel_rfl
theorem among_ok {b : Int} {s : Sl00Src} (l : List Int) (hl : 0 < l.length) (hb : 0 ≤ b) (h : SrcOk (b + 2) s) : ∃ r s', p_spec_l00Src_among l s = some (r, s') ∧ r ∈ l ∧ SrcOk b s' := by
  obtain ⟨r, s1, e1, ⟨b1, b2, b3⟩, o1⟩ := pick_ok (l.length : Int) hb h
  unfold p_spec_l00Src_among
  have hr : r < (l.length : Int) := by
    rcases Nat.lt_or_ge 1 l.length with h | h
    · exact b2 (by omega)
    · have := b3 (by omega); omega
  rw [e1, callK_some, getK_in b1 hr]
  exact ⟨_, _, rfl, List.getElem_mem _, o1⟩

noncomputable def p_spec_l00Src_one (a_0 : Int) (a_1 : Sl00Src) : Option (Bool × Sl00Src) :=
  callK (p_spec_l00Src_pick a_0 a_1) fun y1 =>
  some ((y1.1 == 0), y1.2)

theorem L_spec_l00Src_one (a_0 : Int) (a_1 : Sl00Src) {r : (Bool × Sl00Src)} (h : p_spec_l00Src_one a_0 a_1 = some r) : callL E 130 [.bp 0 0, IN a_0] ([some (.box [.d (.arr (a_1.Code.map rU)), IN a_1.At, .d (.lit (.int .u64 a_1.Seed))])] : Fo) = some (BO r.1, ([some (.box [.d (.arr (r.2.Code.map rU)), IN r.2.At, .d (.lit (.int .u64 r.2.Seed))])] : Fo)) := by
  unfold p_spec_l00Src_one at h
  refine callW (fu := Try.f130) rfl rfl rfl NN ?_
  intro lp cl hlp hcl
  conv => lhs; whnf
  obtain ⟨y1, h_y1, h⟩ := callK_inv h
  rw [cl_eq hcl (L_spec_l00Src_pick a_0 a_1 h_y1)]
  rotate_left
  · show _ = _
    kernel_rfl
  · show _ = _
    kernel_rfl
  conv => lhs; whnf
  obtain rfl := Option.some.inj h
  show _ = _
  kernel_rfl
theorem one_ok {b : Int} {s : Sl00Src} (m : Int) (hb : 0 ≤ b) (h : SrcOk (b + 2) s) : ∃ r s', p_spec_l00Src_one m s = some (r, s') ∧ SrcOk b s' := by
  obtain ⟨r, s1, e1, _, o1⟩ := pick_ok m hb h
  unfold p_spec_l00Src_one
  rw [e1, callK_some]
  exact ⟨_, _, rfl, o1⟩

noncomputable def p_spec_l00Src_word (a_0 : Int) (a_1 : Sl00Src) : Option (ByteArray × Sl00Src) :=
  callK (p_spec_l00Src_pick a_0 a_1) fun y1 =>
  iterK (fun ((v2, v3, v4) : (Int × Sl00Src × (List Int))) (nx5 : (Int × Sl00Src × (List Int)) → Option _) =>
    if v2 > 0 then
      callK (p_spec_l00Src_next v3) fun y6 =>
      grd (appOk (v4.length + 1) 1 = true) <|
      nx5 ((IntKind.i64.wrap (v2 - 1)), y6.2, (v4 ++ ([(IntKind.u8.wrap y6.1)] : List Int)))
    else
      some ((bytesOf (v4.map rU)), v3)) NN (y1.1, y1.2, ([] : List Int))

theorem L_spec_l00Src_word (a_0 : Int) (a_1 : Sl00Src) {r : (ByteArray × Sl00Src)} (h : p_spec_l00Src_word a_0 a_1 = some r) : callL E 165 [.bp 0 0, IN a_0] ([some (.box [.d (.arr (a_1.Code.map rU)), IN a_1.At, .d (.lit (.int .u64 a_1.Seed))])] : Fo) = some (ST r.1, ([some (.box [.d (.arr (r.2.Code.map rU)), IN r.2.At, .d (.lit (.int .u64 r.2.Seed))])] : Fo)) := by
  unfold p_spec_l00Src_word at h
  refine callW (fu := Try.f165) rfl rfl rfl NN ?_
  intro lp cl hlp hcl
  conv => lhs; whnf
  obtain ⟨y1, h_y1, h⟩ := callK_inv h
  rw [cl_eq hcl (L_spec_l00Src_pick a_0 a_1 h_y1)]
  rotate_left
  · show _ = _
    kernel_rfl
  · show _ = _
    kernel_rfl
  conv => lhs; whnf
  refine loop_iter hlp (fun ((v2, v3, v4) : (Int × Sl00Src × (List Int))) => ([.bp 0 0, .dead, .dead, .dead, .dead, .sl 1, IN v2] ++ List.replicate 16 .dead : List V)) (fun ((v2, v3, v4) : (Int × Sl00Src × (List Int))) => ([some (.box [.d (.arr (v3.Code.map rU)), IN v3.At, .d (.lit (.int .u64 v3.Seed))]), some (.arr 5 1 (v4.map rU))] : Fo)) (fun (r : (ByteArray × Sl00Src)) => ((ST r.1 : V), ([some (.box [.d (.arr (r.2.Code.map rU)), IN r.2.At, .d (.lit (.int .u64 r.2.Seed))])] : Fo))) ?_ (y1.1, y1.2, ([] : List Int)) _ (fun kk => by kernel_rfl) h
  clear h
  rintro next_nx5 nx5 hnx5 ⟨v2, v3, v4⟩ r h
  try dsimp only at h
  conv => lhs; whnf
  cases hb7 : (decide (v2 > 0))
  · replace h := ifF h (decF hb7)
    conv => lhs; whnf
    rw [byteRows_rU]
    conv => lhs; whnf
    obtain rfl := Option.some.inj h
    show _ = _
    kernel_rfl
  · replace h := ifT h (decT hb7)
    conv => lhs; whnf
    obtain ⟨y6, h_y6, h⟩ := callK_inv h
    rw [cl_eq hcl (L_spec_l00Src_next v3 h_y6)]
    rotate_left
    · show _ = _
      kernel_rfl
    · show _ = _
      kernel_rfl
    conv => lhs; whnf
    obtain ⟨hg8, h⟩ := grd_inv h
    rw [app_eq hg8 ?h1 ?h2]
    case h1 => first | exact rfl | (simp only [List.length_map, List.length_cons, List.length_nil]; done) | (rw [List.length_map]; rfl)
    case h2 => exact rfl
    conv => lhs; whnf
    first | (rw [map_app_of (r := rU) (l := v4) (m := ([(IntKind.u8.wrap y6.1)] : List Int)) ?hh]; case hh => exact rfl) | skip
    exact hnx5 _ _ _ _ (fun kk => by kernel_rfl) h
theorem word_ok {b : Int} {s : Sl00Src} (m : Int) (hm : m ≤ 1000) (hb : 0 ≤ b) (h : SrcOk (b + 1010) s) : ∃ r, p_spec_l00Src_word m s = some r ∧ (SrcOk b r.2 ∧ ((r.1.size : Int) < m ∨ r.1.size = 0)) := by
  obtain ⟨k, s1, e1, ⟨b1, b2, b3⟩, o1⟩ := pick_ok (b := b + 1005) m (by omega) (h.le (by omega))
  unfold p_spec_l00Src_word
  rw [e1, callK_some]
  have hk : k < 1000 := by rcases Int.lt_or_le 1 m with h | h; · have := b2 h; omega
                           · have := b3 h; omega
  refine iterK_ex (fun d (x : Int × Sl00Src × List Int) => d = x.1.toNat ∧ 0 ≤ x.1 ∧ x.1 ≤ k ∧ (x.2.2.length : Int) = k - x.1 ∧ SrcOk (b + x.1) x.2.1) ?_ k.toNat _ (by unfold NN; omega) ⟨rfl, b1, Int.le_refl _, by simp, o1.le (by dsimp only; omega)⟩
  rintro d ⟨q, s, l⟩ ⟨rfl, h0, h8, hl, ho⟩ nx hnx
  dsimp only at h0 h8 hl ho hnx ⊢
  split
  · rename_i hq
    obtain ⟨v, s3, e3, _, o3⟩ := next_ok (b := b + q - 1) (by omega) (ho.le (by omega))
    rw [e3, callK_some, grd_pos (appOk_of _ _ (by omega)), wrap_sm (q - 1) (by omega) (by omega)]
    exact hnx (q - 1).toNat _ (by omega) ⟨rfl, by dsimp only; omega, by dsimp only; omega, by simp; omega, o3.le (by dsimp only; omega)⟩
  · rename_i hq
    refine ⟨_, rfl, ho.le (by omega), ?_⟩
    dsimp only
    rw [bytesOf_rU, size_ofL, List.length_map]
    rcases Int.lt_or_le 1 m with h | h
    · have := b2 h; exact .inl (by omega)
    · have := b3 h; exact .inr (by omega)

noncomputable def p_laws_b10Long (a_0 : List Int) (a_1 : List Int) : Option Bool :=
  if (a_0.length : Int) > 1048576 then
    some true
  else
    some (decide ((a_1.length : Int) > 1048576))

theorem L_laws_b10Long (a_0 : List Int) (a_1 : List Int) {r : Bool} (h : p_laws_b10Long a_0 a_1 = some r) : callL E 61 [.d (.arr (a_0.map rU)), .d (.arr (a_1.map rU))] ([] : Fo) = some (BO r, ([] : Fo)) := by
  unfold p_laws_b10Long at h
  refine callW (fu := Try.f61) rfl rfl rfl NN ?_
  intro lp cl hlp hcl
  conv => lhs; whnf
  try rw [len_of (l := a_0) (r := rU)]
  cases hb1 : (decide ((a_0.length : Int) > 1048576))
  · replace h := ifF h (decF hb1)
    conv => lhs; whnf
    try rw [len_of (l := a_1) (r := rU)]
    obtain rfl := Option.some.inj h
    show _ = _
    kernel_rfl
  · replace h := ifT h (decT hb1)
    conv => lhs; whnf
    obtain rfl := Option.some.inj h
    show _ = _
    kernel_rfl

noncomputable def p_spec_l02Draw (a_0 : Sl00Src) : Option (Int × Sl00Src) :=
  callK (p_spec_l00Src_pick 65535 a_0) fun y1 =>
  callK (p_spec_l00Src_among ([1, 2, 46080, 32768, 65535, (IntKind.i64.wrap (1 + y1.1)), (IntKind.i64.wrap (1 + y1.1)), (IntKind.i64.wrap (1 + y1.1)), 0, (-1), 65536] : List Int) y1.2) fun y2 =>
  some (y2.1, y2.2)

theorem L_spec_l02Draw (a_0 : Sl00Src) {r : (Int × Sl00Src)} (h : p_spec_l02Draw a_0 = some r) : callL E 164 [.bp 0 0] ([some (.box [.d (.arr (a_0.Code.map rU)), IN a_0.At, .d (.lit (.int .u64 a_0.Seed))])] : Fo) = some (IN r.1, ([some (.box [.d (.arr (r.2.Code.map rU)), IN r.2.At, .d (.lit (.int .u64 r.2.Seed))])] : Fo)) := by
  unfold p_spec_l02Draw at h
  refine callW (fu := Try.f164) rfl rfl rfl NN ?_
  intro lp cl hlp hcl
  conv => lhs; whnf
  obtain ⟨y1, h_y1, h⟩ := callK_inv h
  rw [cl_eq hcl (L_spec_l00Src_pick 65535 a_0 h_y1)]
  rotate_left
  · show _ = _
    kernel_rfl
  · show _ = _
    kernel_rfl
  conv => lhs; whnf
  obtain ⟨y2, h_y2, h⟩ := callK_inv h
  rw [cl_eq hcl (L_spec_l00Src_among ([1, 2, 46080, 32768, 65535, (IntKind.i64.wrap (1 + y1.1)), (IntKind.i64.wrap (1 + y1.1)), (IntKind.i64.wrap (1 + y1.1)), 0, (-1), 65536] : List Int) y1.2 h_y2)]
  rotate_left
  · show _ = _
    kernel_rfl
  · show _ = _
    kernel_rfl
  conv => lhs; whnf
  obtain rfl := Option.some.inj h
  show _ = _
  kernel_rfl

noncomputable def p_spec_DrawScramble (a_0 : List Int) : Option (Int × ByteArray) :=
  callK (p_spec_l00From a_0) fun y1 =>
  callK (p_spec_l02Draw y1) fun y2 =>
  callK (p_spec_l00Src_one 12 y2.2) fun y3 =>
  if y3.1 = true then
    callK (p_spec_l00Src_pick 2 y3.2) fun y4 =>
    grd (mkOk (IntKind.i64.wrap (256 + y4.1)) (IntKind.i64.wrap (256 + y4.1)) 1 1 = true) <|
    some ((IntKind.i64.wrap (y2.1 - 1)), (bytesOf ((List.replicate (Int.toNat (IntKind.i64.wrap (256 + y4.1))) (0 : Int)).map rU)))
  else
    callK (p_spec_l00Src_word 90 y3.2) fun y5 =>
    some ((IntKind.i64.wrap (y2.1 - 1)), y5.1)

theorem L_spec_DrawScramble (a_0 : List Int) {r : (Int × ByteArray)} (h : p_spec_DrawScramble a_0 = some r) : callL E 62 [.d (.arr (a_0.map rU))] ([] : Fo) = some (.tup [IN r.1, ST r.2], ([] : Fo)) := by
  unfold p_spec_DrawScramble at h
  refine callW (fu := Try.f62) rfl rfl rfl NN ?_
  intro lp cl hlp hcl
  conv => lhs; whnf
  obtain ⟨y1, h_y1, h⟩ := callK_inv h
  rw [cl_eq hcl (L_spec_l00From a_0 h_y1)]
  rotate_left
  · show _ = _
    kernel_rfl
  · show _ = _
    kernel_rfl
  conv => lhs; whnf
  obtain ⟨y2, h_y2, h⟩ := callK_inv h
  rw [cl_eq hcl (L_spec_l02Draw y1 h_y2)]
  rotate_left
  · show _ = _
    kernel_rfl
  · show _ = _
    kernel_rfl
  conv => lhs; whnf
  obtain ⟨y3, h_y3, h⟩ := callK_inv h
  rw [cl_eq hcl (L_spec_l00Src_one 12 y2.2 h_y3)]
  rotate_left
  · show _ = _
    kernel_rfl
  · show _ = _
    kernel_rfl
  conv => lhs; whnf
  cases hb6 : y3.1
  · replace h := ifF h (booF hb6)
    conv => lhs; whnf
    obtain ⟨y5, h_y5, h⟩ := callK_inv h
    rw [cl_eq hcl (L_spec_l00Src_word 90 y3.2 h_y5)]
    rotate_left
    · show _ = _
      kernel_rfl
    · show _ = _
      kernel_rfl
    conv => lhs; whnf
    obtain rfl := Option.some.inj h
    show _ = _
    kernel_rfl
  · replace h := ifT h hb6
    conv => lhs; whnf
    obtain ⟨y4, h_y4, h⟩ := callK_inv h
    rw [cl_eq hcl (L_spec_l00Src_pick 2 y3.2 h_y4)]
    rotate_left
    · show _ = _
      kernel_rfl
    · show _ = _
      kernel_rfl
    conv => lhs; whnf
    obtain ⟨hg7, h⟩ := grd_inv h
    rw [mk_eq hg7 ?h1 ?h2 ?h3 ?h4]
    case h1 => exact rfl
    case h2 => exact rfl
    case h3 => exact rfl
    case h4 => exact rfl
    conv => lhs; whnf
    first | (rw [rep_of (r := rU) (x := (0 : Int)) ?hh]; case hh => exact rfl) | skip
    rw [byteRows_rU]
    conv => lhs; whnf
    obtain rfl := Option.some.inj h
    show _ = _
    kernel_rfl

noncomputable def p_impl_step (a_0 : Int) : Option Int :=
  if (Int.tmod a_0 2) = 1 then
    some (xorK .i64 (Int.fdiv a_0 (2 ^ (min (Int.toNat 1) IntKind.i64.bits))) 46080)
  else
    some (Int.fdiv a_0 (2 ^ (min (Int.toNat 1) IntKind.i64.bits)))

theorem L_impl_step (a_0 : Int) {r : Int} (h : p_impl_step a_0 = some r) : callL E 231 [IN a_0] ([] : Fo) = some (IN r, ([] : Fo)) := by
  unfold p_impl_step at h
  refine callW (fu := Try.f231) rfl rfl rfl NN ?_
  intro lp cl hlp hcl
  conv => lhs; whnf
  try (rw [rem_run _ _ _ 2 (by decide)]; conv => lhs; whnf)
  conv => lhs; whnf
  cases hb1 : ((Int.tmod a_0 2) == 1)
  · replace h := ifF h (beqF hb1)
    conv => lhs; whnf
    obtain rfl := Option.some.inj h
    show _ = _
    kernel_rfl
  · replace h := ifT h (beqT hb1)
    conv => lhs; whnf
    obtain rfl := Option.some.inj h
    show _ = _
    kernel_rfl

noncomputable def p_impl_keystream (a_0 : Int) (a_1 : Int) : Option ByteArray :=
  grd (mkOk a_1 a_1 1 1 = true) <|
  grd ((List.replicate (Int.toNat a_1) (0 : Int)).length < 4611686018427387904) <|
  forK (List.replicate (Int.toNat a_1) (0 : Int)) (fun (i15 : Nat) x19 ((v16, v17) : (Int × (List Int))) (nx18 : (Int × (List Int)) → Option _) =>
    grd ((8 : Int) < 4611686018427387904) <|
    forI (8 : Int) (fun (i25 : Nat) ((v26, v27) : (Int × (List Int))) (nx28 : (Int × (List Int)) → Option _) =>
      getK v27 (i15 : Int) fun x29 =>
      grd (0 ≤ (i25 : Int)) <|
      callK (p_impl_step v26) fun y30 =>
      nx28 (y30, (v27.set (Int.toNat (i15 : Int)) (orK .u8 x29 (IntKind.u8.wrap ((IntKind.u8.wrap (Int.tmod v26 2)) * 2 ^ (min (Int.toNat (i25 : Int)) IntKind.u8.bits))))))) (v16, v17) (fun ((v26, v27) : (Int × (List Int))) =>
      nx18 (v26, v27))) (a_0, (List.replicate (Int.toNat a_1) (0 : Int))) (fun ((v16, v17) : (Int × (List Int))) =>
    some (bytesOf (v17.map rU)))

theorem L_impl_keystream (a_0 : Int) (a_1 : Int) {r : ByteArray} (h : p_impl_keystream a_0 a_1 = some r) : callL E 168 [IN a_0, IN a_1] ([] : Fo) = some (ST r, ([] : Fo)) := by
  unfold p_impl_keystream at h
  refine callW (fu := Try.f168) rfl rfl rfl NN ?_
  intro lp cl hlp hcl
  conv => lhs; whnf
  obtain ⟨hg31, h⟩ := grd_inv h
  rw [mk_eq hg31 ?h1 ?h2 ?h3 ?h4]
  case h1 => exact rfl
  case h2 => exact rfl
  case h3 => exact rfl
  case h4 => exact rfl
  conv => lhs; whnf
  first | (rw [rep_of (r := rU) (x := (0 : Int)) ?hh]; case hh => exact rfl) | skip
  try rw [len_of (l := (List.replicate (Int.toNat a_1) (0 : Int))) (r := rU)]
  obtain ⟨hl_i15, h⟩ := grd_inv h
  refine loop_for hlp (l := (List.replicate (Int.toNat a_1) (0 : Int))) hl_i15 (fun (i15 : Nat) ((v16, v17) : (Int × (List Int))) => ([IN v16, .dead, .dead, .dead, .dead, .sl 0, .dead, .dead, .dead, .dead, .dead, IN ((List.replicate (Int.toNat a_1) (0 : Int)).length : Int), IN (i15 : Int)] ++ List.replicate 22 .dead : List V)) (fun (i15 : Nat) ((v16, v17) : (Int × (List Int))) => ([some (.arr 5 1 (v17.map rU))] : Fo)) (fun (r : ByteArray) => ((ST r : V), ([] : Fo))) ?_ ?_ (a_0, (List.replicate (Int.toNat a_1) (0 : Int))) _ (fun kk => by kernel_rfl) h
  · clear h
    rintro next_nx18 nx18 i15 hi_i15 hnx18 ⟨v16, v17⟩ r h
    try dsimp only at h
    have hn_i15 : i15 < 4611686018427387904 := by omega
    have hx_x19 := get_map rU (List.replicate (Int.toNat a_1) (0 : Int)) i15 hi_i15
    generalize (List.replicate (Int.toNat a_1) (0 : Int))[i15] = x19 at h hx_x19
    have hd_i15 : (decide ((i15 : Int) < ((List.replicate (Int.toNat a_1) (0 : Int)).length : Int))) = true := decide_eq_true (by omega)
    conv => lhs; whnf
    rw [hd_i15]
    conv => lhs; whnf
    obtain ⟨hl_i25, h⟩ := grd_inv h
    refine loop_forI hlp (n := (8 : Int)) hl_i25 (fun (i25 : Nat) ((v26, v27) : (Int × (List Int))) => ([IN v26, .dead, .dead, .dead, .dead, .sl 0, IN (i15 : Int), .dead, .dead, .dead, .dead, IN ((List.replicate (Int.toNat a_1) (0 : Int)).length : Int), IN (i15 : Int), .dead, .dead, IN (i25 : Int)] ++ List.replicate 19 .dead : List V)) (fun (i25 : Nat) ((v26, v27) : (Int × (List Int))) => ([some (.arr 5 1 (v27.map rU))] : Fo)) (fun (r : ByteArray) => ((ST r : V), ([] : Fo))) ?_ ?_ (v16, v17) _ (fun kk => by kernel_rfl) h
    · clear h
      rintro next_nx28 nx28 i25 hi_i25 hnx28 ⟨v26, v27⟩ r h
      try dsimp only at h
      have hn_i25 : i25 < 4611686018427387904 := by omega
      have hd_i25 : (decide ((i25 : Int) < 8)) = true := decide_eq_true (by omega)
      conv => lhs; whnf
      rw [hd_i25]
      conv => lhs; whnf
      obtain ⟨x29, hq_x29, hx_x29', h⟩ := getK_inv h
      have hx_x29 := get_of (r := rU) hx_x29'
      try (rw [decide_eq_true hq_x29]; conv => lhs; whnf)
      rw [hx_x29]
      conv => lhs; whnf
      rw [hx_x29]
      conv => lhs; whnf
      try (rw [rem_run _ _ _ 2 (by decide)]; conv => lhs; whnf)
      conv => lhs; whnf
      obtain ⟨hg32, h⟩ := grd_inv h
      try (rw [shl_run _ _ _ _ _ hg32]; conv => lhs; whnf)
      conv => lhs; whnf
      try (rw [decide_eq_true hq_x29]; conv => lhs; whnf)
      rw [hx_x29]
      conv => lhs; whnf
      rw [hx_x29]
      conv => lhs; whnf
      first | (rw [map_set_of (r := rU) (l := v27) (x := (orK .u8 x29 (IntKind.u8.wrap ((IntKind.u8.wrap (Int.tmod v26 2)) * 2 ^ (min (Int.toNat (i25 : Int)) IntKind.u8.bits))))) ?hh]; case hh => exact rfl) | skip
      obtain ⟨y30, h_y30, h⟩ := callK_inv h
      rw [cl_eq hcl (L_impl_step v26 h_y30)]
      rotate_left
      · show _ = _
        kernel_rfl
      · show _ = _
        kernel_rfl
      conv => lhs; whnf
      rw [wrap_nat i25 (by have := hn_i25; omega)]
      exact hnx28 _ _ _ _ (fun kk => by kernel_rfl) h
    · clear h
      rintro next_nx28 ⟨v26, v27⟩ r h
      try dsimp only at h
      have hd_i25 : (decide (((Int.toNat 8) : Int) < 8)) = false := decide_eq_false (by omega)
      conv => lhs; whnf
      rw [hd_i25]
      conv => lhs; whnf
      rw [wrap_nat i15 (by have := hn_i15; omega)]
      exact hnx18 _ _ _ _ (fun kk => by kernel_rfl) h
  · clear h
    rintro next_nx18 ⟨v16, v17⟩ r h
    try dsimp only at h
    have hd_i15 : (decide (((List.replicate (Int.toNat a_1) (0 : Int)).length : Int) < ((List.replicate (Int.toNat a_1) (0 : Int)).length : Int))) = false := decide_eq_false (by omega)
    conv => lhs; whnf
    rw [hd_i15]
    conv => lhs; whnf
    rw [byteRows_rU]
    conv => lhs; whnf
    obtain rfl := Option.some.inj h
    show _ = _
    kernel_rfl

noncomputable def p_impl_xored (a_0 : ByteArray) (a_1 : ByteArray) : Option ByteArray :=
  grd (mkOk (ByteArray.size a_0 : Int) (ByteArray.size a_0 : Int) 1 1 = true) <|
  grd ((List.replicate (Int.toNat (ByteArray.size a_0 : Int)) (0 : Int)).length < 4611686018427387904) <|
  forK (List.replicate (Int.toNat (ByteArray.size a_0 : Int)) (0 : Int)) (fun (i6 : Nat) x9 (v7 : List Int) (nx8 : (List Int) → Option _) =>
    getB a_0 (i6 : Int) fun c10 =>
    getB a_1 (i6 : Int) fun c11 =>
    getK v7 (i6 : Int) fun x12 =>
    nx8 (v7.set (Int.toNat (i6 : Int)) (xorK .u8 c10 c11))) (List.replicate (Int.toNat (ByteArray.size a_0 : Int)) (0 : Int)) (fun (v7 : List Int) =>
    some (bytesOf (v7.map rU)))

theorem L_impl_xored (a_0 : ByteArray) (a_1 : ByteArray) {r : ByteArray} (h : p_impl_xored a_0 a_1 = some r) : callL E 230 [ST a_0, ST a_1] ([] : Fo) = some (ST r, ([] : Fo)) := by
  unfold p_impl_xored at h
  refine callW (fu := Try.f230) rfl rfl rfl NN ?_
  intro lp cl hlp hcl
  conv => lhs; whnf
  obtain ⟨hg13, h⟩ := grd_inv h
  rw [mk_eq hg13 ?h1 ?h2 ?h3 ?h4]
  case h1 => exact rfl
  case h2 => exact rfl
  case h3 => exact rfl
  case h4 => exact rfl
  conv => lhs; whnf
  first | (rw [rep_of (r := rU) (x := (0 : Int)) ?hh]; case hh => exact rfl) | skip
  try rw [len_of (l := (List.replicate (Int.toNat (ByteArray.size a_0 : Int)) (0 : Int))) (r := rU)]
  obtain ⟨hl_i6, h⟩ := grd_inv h
  refine loop_for hlp (l := (List.replicate (Int.toNat (ByteArray.size a_0 : Int)) (0 : Int))) hl_i6 (fun (i6 : Nat) (v7 : List Int) => ([ST a_0, ST a_1, .dead, .dead, .dead, .sl 0, .dead, .dead, .dead, .dead, .dead, IN ((List.replicate (Int.toNat (ByteArray.size a_0 : Int)) (0 : Int)).length : Int), IN (i6 : Int)] ++ List.replicate 15 .dead : List V)) (fun (i6 : Nat) (v7 : List Int) => ([some (.arr 5 1 (v7.map rU))] : Fo)) (fun (r : ByteArray) => ((ST r : V), ([] : Fo))) ?_ ?_ (List.replicate (Int.toNat (ByteArray.size a_0 : Int)) (0 : Int)) _ (fun kk => by kernel_rfl) h
  · clear h
    rintro next_nx8 nx8 i6 hi_i6 hnx8 v7 r h
    try dsimp only at h
    have hn_i6 : i6 < 4611686018427387904 := by omega
    have hx_x9 := get_map rU (List.replicate (Int.toNat (ByteArray.size a_0 : Int)) (0 : Int)) i6 hi_i6
    generalize (List.replicate (Int.toNat (ByteArray.size a_0 : Int)) (0 : Int))[i6] = x9 at h hx_x9
    have hd_i6 : (decide ((i6 : Int) < ((List.replicate (Int.toNat (ByteArray.size a_0 : Int)) (0 : Int)).length : Int))) = true := decide_eq_true (by omega)
    conv => lhs; whnf
    rw [hd_i6]
    conv => lhs; whnf
    obtain ⟨c10', hq_c10, hc_c10, h⟩ := getB_inv h
    try (rw [decide_eq_true hq_c10]; conv => lhs; whnf)
    rw [hc_c10]
    conv => lhs; whnf
    generalize he_c10 : (c10'.toNat : Int) = c10 at h ⊢
    conv => lhs; whnf
    obtain ⟨c11', hq_c11, hc_c11, h⟩ := getB_inv h
    try (rw [decide_eq_true hq_c11]; conv => lhs; whnf)
    rw [hc_c11]
    conv => lhs; whnf
    generalize he_c11 : (c11'.toNat : Int) = c11 at h ⊢
    conv => lhs; whnf
    obtain ⟨x12, hq_x12, hx_x12', h⟩ := getK_inv h
    have hx_x12 := get_of (r := rU) hx_x12'
    try (rw [decide_eq_true hq_x12]; conv => lhs; whnf)
    rw [hx_x12]
    conv => lhs; whnf
    rw [hx_x12]
    conv => lhs; whnf
    first | (rw [map_set_of (r := rU) (l := v7) (x := (xorK .u8 c10 c11)) ?hh]; case hh => exact rfl) | skip
    rw [wrap_nat i6 (by have := hn_i6; omega)]
    exact hnx8 _ _ _ _ (fun kk => by kernel_rfl) h
  · clear h
    rintro next_nx8 v7 r h
    try dsimp only at h
    have hd_i6 : (decide (((List.replicate (Int.toNat (ByteArray.size a_0 : Int)) (0 : Int)).length : Int) < ((List.replicate (Int.toNat (ByteArray.size a_0 : Int)) (0 : Int)).length : Int))) = false := decide_eq_false (by omega)
    conv => lhs; whnf
    rw [hd_i6]
    conv => lhs; whnf
    rw [byteRows_rU]
    conv => lhs; whnf
    obtain rfl := Option.some.inj h
    show _ = _
    kernel_rfl

noncomputable def p_impl_scrambled (a_0 : Int) (a_1 : ByteArray) : Option ByteArray :=
  callK (p_impl_keystream (IntKind.i64.wrap (a_0 + 1)) (ByteArray.size a_1 : Int)) fun y1 =>
  callK (p_impl_xored a_1 y1) fun y2 =>
  some y2

theorem L_impl_scrambled (a_0 : Int) (a_1 : ByteArray) {r : ByteArray} (h : p_impl_scrambled a_0 a_1 = some r) : callL E 166 [IN a_0, ST a_1] ([] : Fo) = some (ST r, ([] : Fo)) := by
  unfold p_impl_scrambled at h
  refine callW (fu := Try.f166) rfl rfl rfl NN ?_
  intro lp cl hlp hcl
  conv => lhs; whnf
  obtain ⟨y1, h_y1, h⟩ := callK_inv h
  rw [cl_eq hcl (L_impl_keystream (IntKind.i64.wrap (a_0 + 1)) (ByteArray.size a_1 : Int) h_y1)]
  rotate_left
  · show _ = _
    kernel_rfl
  · show _ = _
    kernel_rfl
  conv => lhs; whnf
  obtain ⟨y2, h_y2, h⟩ := callK_inv h
  rw [cl_eq hcl (L_impl_xored a_1 y1 h_y2)]
  rotate_left
  · show _ = _
    kernel_rfl
  · show _ = _
    kernel_rfl
  conv => lhs; whnf
  obtain rfl := Option.some.inj h
  show _ = _
  kernel_rfl

noncomputable def p_impl_Scramble (a_0 : Int) (a_1 : ByteArray) : Option (ByteArray × Int) :=
  if (inR a_0 0 65534) = true then
    if (ByteArray.size a_1 : Int) > 256 then
      some (⟨#[]⟩, 2)
    else
      callK (p_impl_scrambled a_0 a_1) fun y1 =>
      some (y1, 0)
  else
    some (⟨#[]⟩, 2)

theorem L_impl_Scramble (a_0 : Int) (a_1 : ByteArray) {r : (ByteArray × Int)} (h : p_impl_Scramble a_0 a_1 = some r) : callL E 63 [IN a_0, ST a_1] ([] : Fo) = some (.tup [ST r.1, IN r.2], ([] : Fo)) := by
  unfold p_impl_Scramble at h
  refine callW (fu := Try.f63) rfl rfl rfl NN ?_
  intro lp cl hlp hcl
  conv => lhs; whnf
  rw [cl_eq hcl (L_impl_within a_0 0 65534 (pl_within a_0 0 65534))]
  rotate_left
  · show _ = _
    kernel_rfl
  · show _ = _
    kernel_rfl
  conv => lhs; whnf
  cases hb2 : (inR a_0 0 65534)
  · replace h := ifF h (booF hb2)
    conv => lhs; whnf
    obtain rfl := Option.some.inj h
    show _ = _
    kernel_rfl
  · replace h := ifT h hb2
    conv => lhs; whnf
    cases hb3 : (decide ((ByteArray.size a_1 : Int) > 256))
    · replace h := ifF h (decF hb3)
      conv => lhs; whnf
      obtain ⟨y1, h_y1, h⟩ := callK_inv h
      rw [cl_eq hcl (L_impl_scrambled a_0 a_1 h_y1)]
      rotate_left
      · show _ = _
        kernel_rfl
      · show _ = _
        kernel_rfl
      conv => lhs; whnf
      obtain rfl := Option.some.inj h
      show _ = _
      kernel_rfl
    · replace h := ifT h (decT hb3)
      conv => lhs; whnf
      obtain rfl := Option.some.inj h
      show _ = _
      kernel_rfl

noncomputable def p_impl_SeedFor (a_0 : Int) : Option Int :=
  if (inR a_0 0 65534) = true then
    some (IntKind.i64.wrap (a_0 + 1))
  else
    some 0

theorem L_impl_SeedFor (a_0 : Int) {r : Int} (h : p_impl_SeedFor a_0 = some r) : callL E 65 [IN a_0] ([] : Fo) = some (IN r, ([] : Fo)) := by
  unfold p_impl_SeedFor at h
  refine callW (fu := Try.f65) rfl rfl rfl NN ?_
  intro lp cl hlp hcl
  conv => lhs; whnf
  rw [cl_eq hcl (L_impl_within a_0 0 65534 (pl_within a_0 0 65534))]
  rotate_left
  · show _ = _
    kernel_rfl
  · show _ = _
    kernel_rfl
  conv => lhs; whnf
  cases hb1 : (inR a_0 0 65534)
  · replace h := ifF h (booF hb1)
    conv => lhs; whnf
    obtain rfl := Option.some.inj h
    show _ = _
    kernel_rfl
  · replace h := ifT h hb1
    conv => lhs; whnf
    obtain rfl := Option.some.inj h
    show _ = _
    kernel_rfl

noncomputable def p_impl_ValidState (a_0 : Int) : Option Bool :=
  some (inR a_0 1 65535)

theorem L_impl_ValidState (a_0 : Int) {r : Bool} (h : p_impl_ValidState a_0 = some r) : callL E 167 [IN a_0] ([] : Fo) = some (BO r, ([] : Fo)) := by
  unfold p_impl_ValidState at h
  refine callW (fu := Try.f167) rfl rfl rfl NN ?_
  intro lp cl hlp hcl
  conv => lhs; whnf
  rw [cl_eq hcl (L_impl_within a_0 1 65535 (pl_within a_0 1 65535))]
  rotate_left
  · show _ = _
    kernel_rfl
  · show _ = _
    kernel_rfl
  conv => lhs; whnf
  obtain rfl := Option.some.inj h
  show _ = _
  kernel_rfl

noncomputable def p_impl_Keystream (a_0 : Int) (a_1 : Int) : Option (ByteArray × Int) :=
  callK (p_impl_ValidState a_0) fun y1 =>
  if y1 = true then
    if (inR a_1 0 256) = true then
      callK (p_impl_keystream a_0 a_1) fun y2 =>
      some (y2, 0)
    else
      some (⟨#[]⟩, 2)
  else
    some (⟨#[]⟩, 2)

theorem L_impl_Keystream (a_0 : Int) (a_1 : Int) {r : (ByteArray × Int)} (h : p_impl_Keystream a_0 a_1 = some r) : callL E 64 [IN a_0, IN a_1] ([] : Fo) = some (.tup [ST r.1, IN r.2], ([] : Fo)) := by
  unfold p_impl_Keystream at h
  refine callW (fu := Try.f64) rfl rfl rfl NN ?_
  intro lp cl hlp hcl
  conv => lhs; whnf
  obtain ⟨y1, h_y1, h⟩ := callK_inv h
  rw [cl_eq hcl (L_impl_ValidState a_0 h_y1)]
  rotate_left
  · show _ = _
    kernel_rfl
  · show _ = _
    kernel_rfl
  conv => lhs; whnf
  cases hb3 : y1
  · replace h := ifF h (booF hb3)
    conv => lhs; whnf
    obtain rfl := Option.some.inj h
    show _ = _
    kernel_rfl
  · replace h := ifT h hb3
    conv => lhs; whnf
    rw [cl_eq hcl (L_impl_within a_1 0 256 (pl_within a_1 0 256))]
    rotate_left
    · show _ = _
      kernel_rfl
    · show _ = _
      kernel_rfl
    conv => lhs; whnf
    cases hb4 : (inR a_1 0 256)
    · replace h := ifF h (booF hb4)
      conv => lhs; whnf
      obtain rfl := Option.some.inj h
      show _ = _
      kernel_rfl
    · replace h := ifT h hb4
      conv => lhs; whnf
      obtain ⟨y2, h_y2, h⟩ := callK_inv h
      rw [cl_eq hcl (L_impl_keystream a_0 a_1 h_y2)]
      rotate_left
      · show _ = _
        kernel_rfl
      · show _ = _
        kernel_rfl
      conv => lhs; whnf
      obtain rfl := Option.some.inj h
      show _ = _
      kernel_rfl

noncomputable def p_laws_FnScramble (a_0 : List Int) (a_1 : List Int) : Option Bool :=
  callK (p_laws_b10Long a_0 a_1) fun y1 =>
  if y1 = true then
    some true
  else
    callK (p_spec_DrawScramble a_0) fun y2 =>
    callK (p_impl_Scramble y2.1 y2.2) fun y3 =>
    if ¬ y3.2 = 0 then
      if y2.1 < 0 then
        some true
      else
        if y2.1 > 65534 then
          some true
        else
          some (decide ((ByteArray.size y2.2 : Int) > 256))
    else
      callK (p_impl_Scramble y2.1 y3.1) fun y4 =>
      grd (mkOk (ByteArray.size y2.2 : Int) (ByteArray.size y2.2 : Int) 1 1 = true) <|
      callK (p_impl_Scramble y2.1 (bytesOf ((List.replicate (Int.toNat (ByteArray.size y2.2 : Int)) (0 : Int)).map rU))) fun y5 =>
      callK (p_impl_SeedFor y2.1) fun y6 =>
      callK (p_impl_Keystream y6 (ByteArray.size y2.2 : Int)) fun y7 =>
      if y4.2 = 0 then
        if (y4.1.toList == y2.2.toList) = true then
          if (ByteArray.size y3.1 : Int) = (ByteArray.size y2.2 : Int) then
            if y5.2 = 0 then
              if y7.2 = 0 then
                some (y5.1.toList == y7.1.toList)
              else
                some false
            else
              some false
          else
            some false
        else
          some false
      else
        some false

theorem L_laws_FnScramble (a_0 : List Int) (a_1 : List Int) {r : Bool} (h : p_laws_FnScramble a_0 a_1 = some r) : callL E 9 [.d (.arr (a_0.map rU)), .d (.arr (a_1.map rU))] ([] : Fo) = some (BO r, ([] : Fo)) := by
  unfold p_laws_FnScramble at h
  refine callW (fu := Try.f9) rfl rfl rfl NN ?_
  intro lp cl hlp hcl
  conv => lhs; whnf
  obtain ⟨y1, h_y1, h⟩ := callK_inv h
  rw [cl_eq hcl (L_laws_b10Long a_0 a_1 h_y1)]
  rotate_left
  · show _ = _
    kernel_rfl
  · show _ = _
    kernel_rfl
  conv => lhs; whnf
  cases hb8 : y1
  · replace h := ifF h (booF hb8)
    conv => lhs; whnf
    obtain ⟨y2, h_y2, h⟩ := callK_inv h
    rw [cl_eq hcl (L_spec_DrawScramble a_0 h_y2)]
    rotate_left
    · show _ = _
      kernel_rfl
    · show _ = _
      kernel_rfl
    conv => lhs; whnf
    obtain ⟨y3, h_y3, h⟩ := callK_inv h
    rw [cl_eq hcl (L_impl_Scramble y2.1 y2.2 h_y3)]
    rotate_left
    · show _ = _
      kernel_rfl
    · show _ = _
      kernel_rfl
    conv => lhs; whnf
    cases hb9 : (y3.2 != 0)
    · replace h := ifF h ((fun h => not_not_intro (bneF h)) hb9)
      conv => lhs; whnf
      obtain ⟨y4, h_y4, h⟩ := callK_inv h
      rw [cl_eq hcl (L_impl_Scramble y2.1 y3.1 h_y4)]
      rotate_left
      · show _ = _
        kernel_rfl
      · show _ = _
        kernel_rfl
      conv => lhs; whnf
      obtain ⟨hg10, h⟩ := grd_inv h
      rw [mk_eq hg10 ?h1 ?h2 ?h3 ?h4]
      case h1 => exact rfl
      case h2 => exact rfl
      case h3 => exact rfl
      case h4 => exact rfl
      conv => lhs; whnf
      first | (rw [rep_of (r := rU) (x := (0 : Int)) ?hh]; case hh => exact rfl) | skip
      rw [byteRows_rU]
      conv => lhs; whnf
      obtain ⟨y5, h_y5, h⟩ := callK_inv h
      rw [cl_eq hcl (L_impl_Scramble y2.1 (bytesOf ((List.replicate (Int.toNat (ByteArray.size y2.2 : Int)) (0 : Int)).map rU)) h_y5)]
      rotate_left
      · show _ = _
        kernel_rfl
      · show _ = _
        kernel_rfl
      conv => lhs; whnf
      obtain ⟨y6, h_y6, h⟩ := callK_inv h
      rw [cl_eq hcl (L_impl_SeedFor y2.1 h_y6)]
      rotate_left
      · show _ = _
        kernel_rfl
      · show _ = _
        kernel_rfl
      conv => lhs; whnf
      obtain ⟨y7, h_y7, h⟩ := callK_inv h
      rw [cl_eq hcl (L_impl_Keystream y6 (ByteArray.size y2.2 : Int) h_y7)]
      rotate_left
      · show _ = _
        kernel_rfl
      · show _ = _
        kernel_rfl
      conv => lhs; whnf
      cases hb11 : (y4.2 == 0)
      · replace h := ifF h (beqF hb11)
        conv => lhs; whnf
        obtain rfl := Option.some.inj h
        show _ = _
        kernel_rfl
      · replace h := ifT h (beqT hb11)
        conv => lhs; whnf
        cases hb12 : (y4.1.toList == y2.2.toList)
        · replace h := ifF h (booF hb12)
          conv => lhs; whnf
          obtain rfl := Option.some.inj h
          show _ = _
          kernel_rfl
        · replace h := ifT h hb12
          conv => lhs; whnf
          cases hb13 : ((ByteArray.size y3.1 : Int) == (ByteArray.size y2.2 : Int))
          · replace h := ifF h (beqF hb13)
            conv => lhs; whnf
            obtain rfl := Option.some.inj h
            show _ = _
            kernel_rfl
          · replace h := ifT h (beqT hb13)
            conv => lhs; whnf
            cases hb14 : (y5.2 == 0)
            · replace h := ifF h (beqF hb14)
              conv => lhs; whnf
              obtain rfl := Option.some.inj h
              show _ = _
              kernel_rfl
            · replace h := ifT h (beqT hb14)
              conv => lhs; whnf
              cases hb15 : (y7.2 == 0)
              · replace h := ifF h (beqF hb15)
                conv => lhs; whnf
                obtain rfl := Option.some.inj h
                show _ = _
                kernel_rfl
              · replace h := ifT h (beqT hb15)
                conv => lhs; whnf
                obtain rfl := Option.some.inj h
                show _ = _
                kernel_rfl
    · replace h := ifT h (bneT hb9)
      conv => lhs; whnf
      cases hb16 : (decide (y2.1 < 0))
      · replace h := ifF h (decF hb16)
        conv => lhs; whnf
        cases hb17 : (decide (y2.1 > 65534))
        · replace h := ifF h (decF hb17)
          conv => lhs; whnf
          obtain rfl := Option.some.inj h
          show _ = _
          kernel_rfl
        · replace h := ifT h (decT hb17)
          conv => lhs; whnf
          obtain rfl := Option.some.inj h
          show _ = _
          kernel_rfl
      · replace h := ifT h (decT hb16)
        conv => lhs; whnf
        obtain rfl := Option.some.inj h
        show _ = _
        kernel_rfl
  · replace h := ifT h hb8
    conv => lhs; whnf
    obtain rfl := Option.some.inj h
    show _ = _
    kernel_rfl
theorem pl_step (v : Int) : ∃ w, p_impl_step v = some w := by unfold p_impl_step; split <;> exact ⟨_, rfl⟩
/-- A key stream: there is one, as long as asked. -/
theorem pl_key (seed : Int) (n : Nat) (hn : n ≤ 1048576) : ∃ ks, p_impl_keystream seed (n : Int) = some ks ∧ ks.size = n := by
  unfold p_impl_keystream
  rw [grd_pos (mkOk_nat n 1 1 (by omega) rfl rfl), Int.toNat_natCast, grd_pos (by rw [List.length_replicate]; omega)]
  refine forK_ex (fun i (x : Int × List Int) => x.2.length = n) (fun i hi x hx nx hnx => ?_) (fun x hx => ?_) _ (by simp)
  · rw [List.length_replicate] at hi
    obtain ⟨sd, l⟩ := x
    dsimp only at hx ⊢
    rw [grd_pos (by omega)]
    refine forI_ex (fun j (y : Int × List Int) => y.2.length = n) (fun j hj y hy nx2 hnx2 => ?_) (fun y hy => hnx _ hy) _ hx
    obtain ⟨a, m⟩ := y
    replace hy : m.length = n := hy
    show ∃ r, (getK m (i : Int) fun x29 => _) = some r ∧ _
    obtain ⟨w, hw⟩ := pl_step a
    rw [getK_lt (show i < m.length by omega), grd_pos (by omega), hw, callK_some]
    exact hnx2 _ (by simp [hy])
  · exact ⟨_, rfl, by rw [bytesOf_rU, size_ofL]; simpa using hx⟩
/-- Two strings together. -/
def xr (a b : ByteArray) : ByteArray := ofL ((List.range a.size).map fun i => (bl a).getD i 0 ^^^ (bl b).getD i 0)
theorem xr_size (a b : ByteArray) : (xr a b).size = a.size := by unfold xr; rw [size_ofL]; simp
theorem pl_xored (a b : ByteArray) (ha : a.size ≤ 1048576) (h : a.size = b.size) : p_impl_xored a b = some (xr a b) := by
  unfold p_impl_xored
  rw [grd_pos (mkOk_nat a.size 1 1 (by omega) rfl rfl), Int.toNat_natCast, grd_pos (by rw [List.length_replicate]; omega)]
  refine Eq.trans (forK_fill (fun i => (((bl a).getD i 0 ^^^ (bl b).getD i 0).toNat : Int)) fun i hi x v nx hv => ?_) ?_
  · have h1 : i < (bl a).length := by rw [bl_len]; exact hi
    have h2 : i < (bl b).length := by rw [bl_len]; omega
    rw [getB_lt h1, getB_lt h2, getK_lt (by omega), xor_u8, Int.toNat_natCast]
    simp [List.getD, h1, h2]
  · rw [bytesOf_rU]
    unfold xr
    rw [List.map_map]
    congr 3
    funext i
    simp
theorem getD_bl (a : ByteArray) (i : Nat) (l : List UInt8) (h : a = ofL l) : (bl a).getD i 0 = l.getD i 0 := by rw [h, bl_ofL]
theorem xr_inv (a b : ByteArray) (h : a.size = b.size) : xr (xr a b) b = a := by
  refine bytes_ext ?_
  show bl (xr (xr a b) b) = bl a
  unfold xr
  rw [bl_ofL, size_ofL]
  refine List.ext_getElem (by simp [bl_len]) fun i h1 h2 => ?_
  have hi : i < a.size := by simpa using h1
  simp only [List.getElem_map, List.getElem_range]
  rw [bl_ofL]
  rw [bl_len] at h2
  have h3 : i < (bl a).length := by rw [bl_len]; exact hi
  simp [List.getD, hi, h3, UInt8.xor_assoc]
theorem xr_zero (n : Nat) (b : ByteArray) (h : n = b.size) : xr (ofL (List.replicate n 0)) b = b := by
  refine bytes_ext ?_
  show bl (xr _ b) = bl b
  unfold xr
  rw [bl_ofL, size_ofL, bl_ofL]
  refine List.ext_getElem (by simp [bl_len, h]) fun i h1 h2 => ?_
  simp only [List.length_map, List.length_range, List.length_replicate] at h1
  simp only [List.getElem_map, List.getElem_range]
  simp [List.getD, h1, h2]
theorem draw_ok {code : List Int} (h : ∀ x ∈ code, 0 ≤ x ∧ x ≤ 255) (hl : code.length ≤ 1048576) : ∃ r, p_spec_DrawScramble code = some r ∧ r.2.size ≤ 1000 := by
  obtain ⟨s0, e0, o0⟩ := from_ok h hl
  obtain ⟨a, s1, e1, b1, o1⟩ := pick_ok (b := 3000) 65535 (by omega) (o0.le (by omega))
  obtain ⟨p, s2, e2, _, o2⟩ := among_ok (b := 2998) ([1, 2, 46080, 32768, 65535, (IntKind.i64.wrap (1 + a)), (IntKind.i64.wrap (1 + a)), (IntKind.i64.wrap (1 + a)), 0, (-1), 65536] : List Int) (by simp) (by omega) o1
  obtain ⟨c, s3, e3, o3⟩ := one_ok (b := 2996) 12 (by omega) o2
  have hd : p_spec_l02Draw s0 = some (p, s2) := by
    unfold p_spec_l02Draw
    rw [e1, callK_some]
    dsimp only
    rw [e2, callK_some]
  unfold p_spec_DrawScramble
  rw [e0, callK_some, hd, callK_some]
  dsimp only
  rw [e3, callK_some]
  dsimp only
  split
  · obtain ⟨q, s4, e4, b4, o4⟩ := pick_ok (b := 2994) 2 (by omega) o3
    have q1 := b4.2.1 (by omega)
    rw [e4, callK_some]
    dsimp only
    rw [wrap_sm (256 + q) (by omega) (by omega)]
    have := mkOk_nat (256 + q).toNat 1 1 (by omega) rfl rfl
    rw [show (((256 + q).toNat : Nat) : Int) = 256 + q by omega] at this
    rw [grd_pos this]
    refine ⟨_, rfl, ?_⟩
    dsimp only
    rw [bytesOf_rU, size_ofL]
    simp
    omega
  · obtain ⟨r, e4, o4, hs⟩ := word_ok (b := 0) 90 (by omega) (by omega) (o3.le (by omega))
    rw [e4, callK_some]
    exact ⟨_, rfl, by dsimp only; omega⟩
theorem pl_long (a b : List Int) : p_laws_b10Long a b = some (decide ((a.length : Int) > 1048576) || decide ((b.length : Int) > 1048576)) := by
  unfold p_laws_b10Long
  split
  · rename_i h; rw [decide_eq_true h]; rfl
  · rename_i h; rw [decide_eq_false h]; rfl
theorem pl_law (code more : List Int) (hk : okL u8r code) : p_laws_FnScramble code more = some true := by
  unfold p_laws_FnScramble
  rw [pl_long, callK_some]
  by_cases hl : (code.length : Int) > 1048576
  · rw [decide_eq_true hl]; rfl
  rw [decide_eq_false hl]
  by_cases hl2 : (more.length : Int) > 1048576
  · rw [decide_eq_true hl2]; rfl
  rw [decide_eq_false hl2]
  obtain ⟨⟨p, s⟩, e1, hs⟩ := draw_ok hk.2 (by omega)
  dsimp only at hs
  rw [e1]
  simp only [callK_some, Bool.or_self, Bool.false_eq_true, if_false]
  by_cases hp : inR p 0 65534 = true
  · by_cases hz : (s.size : Int) > 256
    · have e2 : p_impl_Scramble p s = some (⟨#[]⟩, 2) := by unfold p_impl_Scramble; rw [if_pos hp, if_pos hz]
      have hp2 := inR_iff.mp hp
      rw [e2, callK_some]
      dsimp only
      rw [if_pos (by omega), if_neg (by omega), if_neg (by omega), decide_eq_true hz]
    · have hp2 := inR_iff.mp hp
      have hw : IntKind.i64.wrap (p + 1) = p + 1 := wrap_sm _ (by omega) (by omega)
      obtain ⟨ks, ek, hks⟩ := pl_key (p + 1) s.size (by omega)
      have sc : ∀ a : ByteArray, a.size = s.size → p_impl_Scramble p a = some (xr a ks, 0) := fun a ha => by
        unfold p_impl_Scramble p_impl_scrambled
        rw [if_pos hp, if_neg (by omega), hw, ha, ek, callK_some, pl_xored a ks (by omega) (by omega)]
        rfl
      rw [sc s rfl, callK_some]
      dsimp only
      rw [if_neg (by omega), sc (xr s ks) (xr_size _ _), callK_some, grd_pos (mkOk_nat s.size 1 1 (by omega) rfl rfl), Int.toNat_natCast]
      have hz0 : bytesOf ((List.replicate s.size (0 : Int)).map rU) = ofL (List.replicate s.size 0) := by rw [bytesOf_rU, List.map_replicate]; rfl
      rw [hz0, sc _ (by rw [size_ofL]; simp), callK_some]
      have hsd : p_impl_SeedFor p = some (p + 1) := by unfold p_impl_SeedFor; rw [if_pos hp, hw]
      have hky : p_impl_Keystream (p + 1) (s.size : Int) = some (ks, 0) := by
        unfold p_impl_Keystream p_impl_ValidState
        rw [callK_some, if_pos (inR_iff.mpr (by omega)), if_pos (inR_iff.mpr (by omega)), ek, callK_some]
      rw [hsd, callK_some, hky, callK_some]
      dsimp only
      rw [if_pos rfl, str_eq, decide_eq_true (xr_inv s ks (by omega)), if_pos rfl, if_pos (by rw [xr_size]), if_pos rfl, if_pos rfl, str_eq, decide_eq_true (xr_zero s.size ks (by omega))]
  · have e2 : p_impl_Scramble p s = some (⟨#[]⟩, 2) := by unfold p_impl_Scramble; rw [if_neg hp]
    rw [e2, callK_some]
    dsimp only
    rw [if_pos (by omega)]
    have hp2 := inR_not.mp (by simpa using hp)
    split
    · rfl
    · rw [if_pos (by omega)]
theorem f_law (code more : List Int) (hk : okL u8r code) (hm : okL u8r more) : callL E 9 [.d (.arr (code.map rU)), .d (.arr (more.map rU))] [] = some (BO true, []) := L_laws_FnScramble code more (pl_law code more hk)

end Go.Proofs.Ytjbddmmammgmjaa.T17
